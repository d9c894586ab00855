/- That the code computes these functions (printed by a program). -/
import Derived.KernelRfl
import Derived.Test.YtdiknmniclancaaAbG2
import Derived.Test.YtdiknmniclancaaAbC2
import Derived.Test.YtdiknmniclancaaFExactWrapsIn
import Derived.Test.YtdiknmniclancaaProg
namespace Go.Proofs.Ytdiknmniclancaa
open Go Go.RowKit Go.Ab
def cI (n : Int) : List D := [.i .i64 n]
def cU8 (n : Int) : List D := [.i .u8 n]
def cU64 (n : Int) : List D := [.i .u64 n]
def cI32 (n : Int) : List D := [.i .i32 n]
def cU32 (n : Int) : List D := [.i .u32 n]
def cB (b : Bool) : List D := [.b b]
def cStr (s : List UInt8) : List D := [.s (bs s)]
def cSl {α : Type} (sz : Nat) (f : α → List D) (l : List α) : List D := [.sl sz (l.map f)]
def cGValue (x : GValue) : List D := [(.i .i64 x.kind), (.i .i64 x.num), (.s (bs x.text))]
def vGValue (x : GValue) : V := .agg (cGValue x)
def bGValue (x : GValue) : List V := (cGValue x).map V.d
mutual
def cGExpr : GExpr → List D
  | ⟨a0, a1, a2, a3, a4, a5, a6, a7⟩ => [(.i .i64 a0)] ++ [(.i .i64 a1)] ++ [(.b a2)] ++ cGValue a3 ++ [(.s (bs a4))] ++ [(.s (bs a5))] ++ [.sl 10 (cLGExpr a6)] ++ [.sl 6 (cLGQuery a7)]
def cGItem : GItem → List D
  | ⟨a0, a1, a2, a3⟩ => [(.b a0)] ++ [(.s (bs a1))] ++ cGExpr a2 ++ [(.s (bs a3))]
def cGQuery : GQuery → List D
  | ⟨a0, a1, a2, a3, a4, a5⟩ => [(.b a0)] ++ [.sl 13 (cLGItem a1)] ++ [.sl 3 (cLGSource a2)] ++ [.sl 10 (cLGExpr a3)] ++ [.sl 11 (cLGSortKey a4)] ++ [(.i .i64 a5)]
def cGSortKey : GSortKey → List D
  | ⟨a0, a1⟩ => cGExpr a0 ++ [(.b a1)]
def cGSource : GSource → List D
  | ⟨a0, a1, a2⟩ => [(.s (bs a0))] ++ [(.s (bs a1))] ++ [.sl 10 (cLGExpr a2)]
def cLGExpr : List GExpr → List (List D)
  | [] => []
  | x :: l => cGExpr x :: cLGExpr l
def cLGItem : List GItem → List (List D)
  | [] => []
  | x :: l => cGItem x :: cLGItem l
def cLGQuery : List GQuery → List (List D)
  | [] => []
  | x :: l => cGQuery x :: cLGQuery l
def cLGSortKey : List GSortKey → List (List D)
  | [] => []
  | x :: l => cGSortKey x :: cLGSortKey l
def cLGSource : List GSource → List (List D)
  | [] => []
  | x :: l => cGSource x :: cLGSource l
end
theorem cLGExpr_eq : ∀ l : List GExpr, cLGExpr l = l.map cGExpr
  | [] => by simp only [cLGExpr, List.map_nil]
  | x :: l => by simp only [cLGExpr, List.map_cons, cLGExpr_eq l]
theorem cLGItem_eq : ∀ l : List GItem, cLGItem l = l.map cGItem
  | [] => by simp only [cLGItem, List.map_nil]
  | x :: l => by simp only [cLGItem, List.map_cons, cLGItem_eq l]
theorem cLGQuery_eq : ∀ l : List GQuery, cLGQuery l = l.map cGQuery
  | [] => by simp only [cLGQuery, List.map_nil]
  | x :: l => by simp only [cLGQuery, List.map_cons, cLGQuery_eq l]
theorem cLGSortKey_eq : ∀ l : List GSortKey, cLGSortKey l = l.map cGSortKey
  | [] => by simp only [cLGSortKey, List.map_nil]
  | x :: l => by simp only [cLGSortKey, List.map_cons, cLGSortKey_eq l]
theorem cLGSource_eq : ∀ l : List GSource, cLGSource l = l.map cGSource
  | [] => by simp only [cLGSource, List.map_nil]
  | x :: l => by simp only [cLGSource, List.map_cons, cLGSource_eq l]
def oGExpr (x : GExpr) : List D := [(.i .i64 x.kind), (.i .i64 x.op), (.b x.not_), (.i .i64 x.value.kind), (.i .i64 x.value.num), (.s (bs x.value.text)), (.s (bs x.qual)), (.s (bs x.name)), (.sl 10 (x.kids.map cGExpr)), (.sl 6 (x.sub.map cGQuery))]
def oGItem (x : GItem) : List D := [(.b x.star), (.s (bs x.qual)), (.i .i64 x.expr.kind), (.i .i64 x.expr.op), (.b x.expr.not_), (.i .i64 x.expr.value.kind), (.i .i64 x.expr.value.num), (.s (bs x.expr.value.text)), (.s (bs x.expr.qual)), (.s (bs x.expr.name)), (.sl 10 (x.expr.kids.map cGExpr)), (.sl 6 (x.expr.sub.map cGQuery)), (.s (bs x.as_))]
def oGQuery (x : GQuery) : List D := [(.b x.distinct), (.sl 13 (x.items.map cGItem)), (.sl 3 (x.from_.map cGSource)), (.sl 10 (x.where_.map cGExpr)), (.sl 11 (x.order.map cGSortKey)), (.i .i64 x.limit)]
def oGSortKey (x : GSortKey) : List D := [(.i .i64 x.expr.kind), (.i .i64 x.expr.op), (.b x.expr.not_), (.i .i64 x.expr.value.kind), (.i .i64 x.expr.value.num), (.s (bs x.expr.value.text)), (.s (bs x.expr.qual)), (.s (bs x.expr.name)), (.sl 10 (x.expr.kids.map cGExpr)), (.sl 6 (x.expr.sub.map cGQuery)), (.b x.desc)]
def oGSource (x : GSource) : List D := [(.s (bs x.table)), (.s (bs x.as_)), (.sl 10 (x.on_.map cGExpr))]
theorem cGExpr_eq (x : GExpr) : cGExpr x = oGExpr x := by
  obtain ⟨a0, a1, a2, a3, a4, a5, a6, a7⟩ := x
  simp only [cGExpr, oGExpr, cLGExpr_eq, cLGItem_eq, cLGQuery_eq, cLGSortKey_eq, cLGSource_eq, List.cons_append, List.nil_append, cGValue]
theorem cGItem_eq (x : GItem) : cGItem x = oGItem x := by
  obtain ⟨a0, a1, a2, a3⟩ := x
  simp only [cGItem, oGItem, cLGExpr_eq, cLGItem_eq, cLGQuery_eq, cLGSortKey_eq, cLGSource_eq, cGExpr_eq, oGExpr, List.cons_append, List.nil_append]
theorem cGQuery_eq (x : GQuery) : cGQuery x = oGQuery x := by
  obtain ⟨a0, a1, a2, a3, a4, a5⟩ := x
  simp only [cGQuery, oGQuery, cLGExpr_eq, cLGItem_eq, cLGQuery_eq, cLGSortKey_eq, cLGSource_eq, List.cons_append, List.nil_append]
theorem cGSortKey_eq (x : GSortKey) : cGSortKey x = oGSortKey x := by
  obtain ⟨a0, a1⟩ := x
  simp only [cGSortKey, oGSortKey, cLGExpr_eq, cLGItem_eq, cLGQuery_eq, cLGSortKey_eq, cLGSource_eq, cGExpr_eq, oGExpr, List.cons_append, List.nil_append]
theorem cGSource_eq (x : GSource) : cGSource x = oGSource x := by
  obtain ⟨a0, a1, a2⟩ := x
  simp only [cGSource, oGSource, cLGExpr_eq, cLGItem_eq, cLGQuery_eq, cLGSortKey_eq, cLGSource_eq, List.cons_append, List.nil_append]
def vGExpr (x : GExpr) : V := .agg (oGExpr x)
def bGExpr (x : GExpr) : List V := (oGExpr x).map V.d
def vGItem (x : GItem) : V := .agg (oGItem x)
def bGItem (x : GItem) : List V := (oGItem x).map V.d
def vGQuery (x : GQuery) : V := .agg (oGQuery x)
def bGQuery (x : GQuery) : List V := (oGQuery x).map V.d
def vGSortKey (x : GSortKey) : V := .agg (oGSortKey x)
def bGSortKey (x : GSortKey) : List V := (oGSortKey x).map V.d
def vGSource (x : GSource) : V := .agg (oGSource x)
def bGSource (x : GSource) : List V := (oGSource x).map V.d
def acwFnExactWrapsIn : AC := (.seq (.ops [.box 1 (.t 0), .asg 2 (.c (.d (.b false)))]) (.seq (.ops [.asg 3 (.c (.d (.i .i64 1048576)))]) (.seq (.ops [.ld 7 6 true (.t 1), .mv 8 (.t 3), .call (some 9) 14 [(.t 7), (.t 8)], .asg 3 (.t 9)]) (.seq (.seq (.ops [.mv 10 (.t 3), .bin 11 .lss (.t 10) (.c (.d (.i .i64 0)))]) (.cond (.t 11) (.seq (.ops [.asg 2 (.c (.d (.b true)))]) .ret) .skip)) (.seq (.ops [.ld 12 6 true (.t 1), .call (some 13) 16 [(.t 12)], .call (some 14) 24 [(.t 13)], .asg 4 (.t 14)]) (.seq (.ops [.ld 15 6 true (.t 1), .call (some 16) 16 [(.t 15)], .alc 5 [(.d (.b false)), (.nil 13), (.nil 3), (.nil 10), (.nil 11), (.d (.i .i64 0))], .st 6 (.t 5) (.t 16)]) (.seq (.ops [.ld 17 6 true (.t 5), .call (some 18) 25 [(.t 17)], .asg 6 (.t 18)]) (.seq (.seq (.ops [.mv 19 (.t 6), .mv 20 (.t 4), .bin 21 .neq (.t 19) (.t 20)]) (.cond (.t 21) (.seq (.ops [.asg 2 (.c (.d (.b false)))]) .ret) .skip)) (.seq (.seq (.dops [[], [], [1], [0, 2, 2], [3]] [.ld 22 6 true (.t 5), .ld 23 6 true (.t 1), .call (some 24) 16 [(.t 23)], .call (some 25) 18 [(.t 22), (.t 24)], .not 26 (.t 25)]) (.cond (.t 26) (.seq (.ops [.asg 2 (.c (.d (.b false)))]) .ret) .skip)) (.seq (.ops [.asg 2 (.c (.d (.b true)))]) .ret))))))))))
theorem trwFnExactWrapsIn : trFn Try.prog 5 = some (acwFnExactWrapsIn, [.mv 0 (.t 2)], 27) := by kernel_rfl
def qwFnExactWrapsIn (r : Bool) : Exit → St → Prop := retQ [.mv 0 (.t 2)] fun x _ => x = (fun y => (.d (.b y))) r
def acwSzQuery : AC := (.seq (.ops [.box 2 (.t 0), .asg 4 (.c (.d (.i .i64 0)))]) (.seq (.ops [.fa 5 1 (.t 2), .ld 6 1 false (.t 5), .mv 7 (.t 1), .call (some 8) 54 [(.t 6), (.t 7)], .asg 1 (.t 8)]) (.seq (.seq (.ops [.mv 9 (.t 1), .bin 10 .lss (.t 9) (.c (.d (.i .i64 0)))]) (.cond (.t 10) (.seq (.ops [.asg 4 (.c (.d (.i .i64 (-1))))]) .ret) .skip)) (.seq (.ops [.fa 11 2 (.t 2), .ld 12 1 false (.t 11), .mv 13 (.t 1), .call (some 14) 55 [(.t 12), (.t 13)], .asg 1 (.t 14)]) (.seq (.seq (.ops [.mv 15 (.t 1), .bin 16 .lss (.t 15) (.c (.d (.i .i64 0)))]) (.cond (.t 16) (.seq (.ops [.asg 4 (.c (.d (.i .i64 (-1))))]) .ret) .skip)) (.seq (.ops [.fa 17 3 (.t 2), .ld 18 1 false (.t 17), .mv 19 (.t 1), .call (some 20) 56 [(.t 18), (.t 19)], .asg 1 (.t 20)]) (.seq (.seq (.ops [.mv 21 (.t 1), .bin 22 .lss (.t 21) (.c (.d (.i .i64 0)))]) (.cond (.t 22) (.seq (.ops [.asg 4 (.c (.d (.i .i64 (-1))))]) .ret) .skip)) (.seq (.ops [.fa 23 4 (.t 2), .ld 24 1 false (.t 23), .mv 25 (.t 1), .call (some 26) 57 [(.t 24), (.t 25)], .asg 1 (.t 26)]) (.seq (.seq (.ops [.mv 27 (.t 1), .bin 28 .lss (.t 27) (.c (.d (.i .i64 0)))]) (.cond (.t 28) (.seq (.ops [.asg 4 (.c (.d (.i .i64 (-1))))]) .ret) .skip)) (.seq (.ops [.mv 29 (.t 1), .asg 4 (.t 29)]) .ret))))))))))
theorem trwSzQuery : trFn Try.prog 14 = some (acwSzQuery, [.mv 0 (.t 4)], 30) := by kernel_rfl
def qwSzQuery (r : Int) : Exit → St → Prop := retQ [.mv 0 (.t 4)] fun x _ => x = (fun y => (.d (.i .i64 y))) r
def acwSzSourceS_L0 : AC := (.loop (.seq (.seq (.ops [.mv 12 (.t 5), .mv 13 (.t 0), .len 14 (.t 13), .bin 15 .lss (.t 12) (.t 14)]) (.cond (.t 15) .skip (.exit 0))) (.seq (.block 1 (.seq (.ops [.mv 18 (.t 0), .mv 19 (.t 5), .ia 20 3 (.t 18) (.t 19), .ld 21 3 true (.t 20), .mv 22 (.t 1), .call (some 23) 118 [(.t 21), (.t 22)], .asg 1 (.t 23)]) (.seq (.ops [.mv 24 (.t 1), .bin 25 .lss (.t 24) (.c (.d (.i .i64 0)))]) (.cond (.t 25) (.seq (.ops [.asg 4 (.c (.d (.i .i64 (-1))))]) .ret) .skip)))) (.ops [.mv 16 (.t 5), .bin 17 .add (.t 16) (.c (.d (.i .i64 1))), .asg 5 (.t 17)]))))
def acwSzSourceS : AC := (.seq (.ops [.asg 4 (.c (.d (.i .i64 0)))]) (.seq (.ops [.mv 6 (.t 1), .mv 7 (.t 0), .len 8 (.t 7), .bin 9 .sub (.t 6) (.t 8), .asg 1 (.t 9)]) (.seq (.seq (.ops [.mv 10 (.t 1), .bin 11 .lss (.t 10) (.c (.d (.i .i64 0)))]) (.cond (.t 11) (.seq (.ops [.asg 4 (.c (.d (.i .i64 (-1))))]) .ret) .skip)) (.seq (.seq (.ops [.asg 5 (.c (.d (.i .i64 0)))]) (.block 0 acwSzSourceS_L0)) (.seq (.ops [.mv 26 (.t 1), .asg 4 (.t 26)]) .ret)))))
theorem trwSzSourceS : trFn Try.prog 55 = some (acwSzSourceS, [.mv 0 (.t 4)], 27) := by kernel_rfl
def qwSzSourceS (r : Int) : Exit → St → Prop := retQ [.mv 0 (.t 4)] fun x _ => x = (fun y => (.d (.i .i64 y))) r
def qwSzSourceS_0 (r : Int) : Exit → St → Prop := (thenK (wkK (avc Try.prog (.seq (.ops [.mv 26 (.t 1), .asg 4 (.t 26)]) .ret) (qwSzSourceS r))) (qwSzSourceS r))
def qwSzSourceS_1 (r : Int) : Exit → St → Prop := (blockK 0 (qwSzSourceS_0 r))
def stwSzSourceS_L0 (p0 : (List GSource)) (x1 : Int) (x5 : Int) : St := ⟨[(0, (.d (.sl 3 (p0.map cGSource)))), (1, (.d (.i .i64 x1))), (5, (.d (.i .i64 x5)))], []⟩
def acwSzSource : AC := (.seq (.ops [.box 2 (.t 0), .asg 4 (.c (.d (.i .i64 0)))]) (.seq (.ops [.mv 5 (.t 1), .fa 6 0 (.t 2), .ld 7 1 false (.t 6), .lns 8 (.t 7), .bin 9 .sub (.t 5) (.t 8), .asg 1 (.t 9)]) (.seq (.seq (.ops [.mv 10 (.t 1), .bin 11 .lss (.t 10) (.c (.d (.i .i64 0)))]) (.cond (.t 11) (.seq (.ops [.asg 4 (.c (.d (.i .i64 (-1))))]) .ret) .skip)) (.seq (.ops [.mv 12 (.t 1), .fa 13 1 (.t 2), .ld 14 1 false (.t 13), .lns 15 (.t 14), .bin 16 .sub (.t 12) (.t 15), .asg 1 (.t 16)]) (.seq (.seq (.ops [.mv 17 (.t 1), .bin 18 .lss (.t 17) (.c (.d (.i .i64 0)))]) (.cond (.t 18) (.seq (.ops [.asg 4 (.c (.d (.i .i64 (-1))))]) .ret) .skip)) (.seq (.ops [.fa 19 2 (.t 2), .ld 20 1 false (.t 19), .mv 21 (.t 1), .call (some 22) 56 [(.t 20), (.t 21)], .asg 1 (.t 22)]) (.seq (.seq (.ops [.mv 23 (.t 1), .bin 24 .lss (.t 23) (.c (.d (.i .i64 0)))]) (.cond (.t 24) (.seq (.ops [.asg 4 (.c (.d (.i .i64 (-1))))]) .ret) .skip)) (.seq (.ops [.mv 25 (.t 1), .asg 4 (.t 25)]) .ret))))))))
theorem trwSzSource : trFn Try.prog 118 = some (acwSzSource, [.mv 0 (.t 4)], 26) := by kernel_rfl
def qwSzSource (r : Int) : Exit → St → Prop := retQ [.mv 0 (.t 4)] fun x _ => x = (fun y => (.d (.i .i64 y))) r
def acwSzExprS_L0 : AC := (.loop (.seq (.seq (.ops [.mv 12 (.t 5), .mv 13 (.t 0), .len 14 (.t 13), .bin 15 .lss (.t 12) (.t 14)]) (.cond (.t 15) .skip (.exit 0))) (.seq (.block 1 (.seq (.ops [.mv 18 (.t 0), .mv 19 (.t 5), .ia 20 10 (.t 18) (.t 19), .ld 21 10 true (.t 20), .mv 22 (.t 1), .call (some 23) 19 [(.t 21), (.t 22)], .asg 1 (.t 23)]) (.seq (.ops [.mv 24 (.t 1), .bin 25 .lss (.t 24) (.c (.d (.i .i64 0)))]) (.cond (.t 25) (.seq (.ops [.asg 4 (.c (.d (.i .i64 (-1))))]) .ret) .skip)))) (.ops [.mv 16 (.t 5), .bin 17 .add (.t 16) (.c (.d (.i .i64 1))), .asg 5 (.t 17)]))))
def acwSzExprS : AC := (.seq (.ops [.asg 4 (.c (.d (.i .i64 0)))]) (.seq (.ops [.mv 6 (.t 1), .mv 7 (.t 0), .len 8 (.t 7), .bin 9 .sub (.t 6) (.t 8), .asg 1 (.t 9)]) (.seq (.seq (.ops [.mv 10 (.t 1), .bin 11 .lss (.t 10) (.c (.d (.i .i64 0)))]) (.cond (.t 11) (.seq (.ops [.asg 4 (.c (.d (.i .i64 (-1))))]) .ret) .skip)) (.seq (.seq (.ops [.asg 5 (.c (.d (.i .i64 0)))]) (.block 0 acwSzExprS_L0)) (.seq (.ops [.mv 26 (.t 1), .asg 4 (.t 26)]) .ret)))))
theorem trwSzExprS : trFn Try.prog 56 = some (acwSzExprS, [.mv 0 (.t 4)], 27) := by kernel_rfl
def qwSzExprS (r : Int) : Exit → St → Prop := retQ [.mv 0 (.t 4)] fun x _ => x = (fun y => (.d (.i .i64 y))) r
def qwSzExprS_0 (r : Int) : Exit → St → Prop := (thenK (wkK (avc Try.prog (.seq (.ops [.mv 26 (.t 1), .asg 4 (.t 26)]) .ret) (qwSzExprS r))) (qwSzExprS r))
def qwSzExprS_1 (r : Int) : Exit → St → Prop := (blockK 0 (qwSzExprS_0 r))
def stwSzExprS_L0 (p0 : (List GExpr)) (x1 : Int) (x5 : Int) : St := ⟨[(0, (.d (.sl 10 (p0.map cGExpr)))), (1, (.d (.i .i64 x1))), (5, (.d (.i .i64 x5)))], []⟩
def acwSzExpr : AC := (.seq (.ops [.box 2 (.t 0), .asg 4 (.c (.d (.i .i64 0)))]) (.seq (.ops [.fa 5 3 (.t 2), .ld 6 3 true (.t 5), .mv 7 (.t 1), .call (some 8) 70 [(.t 6), (.t 7)], .asg 1 (.t 8)]) (.seq (.seq (.ops [.mv 9 (.t 1), .bin 10 .lss (.t 9) (.c (.d (.i .i64 0)))]) (.cond (.t 10) (.seq (.ops [.asg 4 (.c (.d (.i .i64 (-1))))]) .ret) .skip)) (.seq (.ops [.mv 11 (.t 1), .fa 12 6 (.t 2), .ld 13 1 false (.t 12), .lns 14 (.t 13), .bin 15 .sub (.t 11) (.t 14), .asg 1 (.t 15)]) (.seq (.seq (.ops [.mv 16 (.t 1), .bin 17 .lss (.t 16) (.c (.d (.i .i64 0)))]) (.cond (.t 17) (.seq (.ops [.asg 4 (.c (.d (.i .i64 (-1))))]) .ret) .skip)) (.seq (.ops [.mv 18 (.t 1), .fa 19 7 (.t 2), .ld 20 1 false (.t 19), .lns 21 (.t 20), .bin 22 .sub (.t 18) (.t 21), .asg 1 (.t 22)]) (.seq (.seq (.ops [.mv 23 (.t 1), .bin 24 .lss (.t 23) (.c (.d (.i .i64 0)))]) (.cond (.t 24) (.seq (.ops [.asg 4 (.c (.d (.i .i64 (-1))))]) .ret) .skip)) (.seq (.ops [.fa 25 8 (.t 2), .ld 26 1 false (.t 25), .mv 27 (.t 1), .call (some 28) 56 [(.t 26), (.t 27)], .asg 1 (.t 28)]) (.seq (.seq (.ops [.mv 29 (.t 1), .bin 30 .lss (.t 29) (.c (.d (.i .i64 0)))]) (.cond (.t 30) (.seq (.ops [.asg 4 (.c (.d (.i .i64 (-1))))]) .ret) .skip)) (.seq (.ops [.fa 31 9 (.t 2), .ld 32 1 false (.t 31), .mv 33 (.t 1), .call (some 34) 71 [(.t 32), (.t 33)], .asg 1 (.t 34)]) (.seq (.seq (.ops [.mv 35 (.t 1), .bin 36 .lss (.t 35) (.c (.d (.i .i64 0)))]) (.cond (.t 36) (.seq (.ops [.asg 4 (.c (.d (.i .i64 (-1))))]) .ret) .skip)) (.seq (.ops [.mv 37 (.t 1), .asg 4 (.t 37)]) .ret))))))))))))
theorem trwSzExpr : trFn Try.prog 19 = some (acwSzExpr, [.mv 0 (.t 4)], 38) := by kernel_rfl
def qwSzExpr (r : Int) : Exit → St → Prop := retQ [.mv 0 (.t 4)] fun x _ => x = (fun y => (.d (.i .i64 y))) r
def acwSzQueryS_L0 : AC := (.loop (.seq (.seq (.ops [.mv 12 (.t 5), .mv 13 (.t 0), .len 14 (.t 13), .bin 15 .lss (.t 12) (.t 14)]) (.cond (.t 15) .skip (.exit 0))) (.seq (.block 1 (.seq (.ops [.mv 18 (.t 0), .mv 19 (.t 5), .ia 20 6 (.t 18) (.t 19), .ld 21 6 true (.t 20), .mv 22 (.t 1), .call (some 23) 14 [(.t 21), (.t 22)], .asg 1 (.t 23)]) (.seq (.ops [.mv 24 (.t 1), .bin 25 .lss (.t 24) (.c (.d (.i .i64 0)))]) (.cond (.t 25) (.seq (.ops [.asg 4 (.c (.d (.i .i64 (-1))))]) .ret) .skip)))) (.ops [.mv 16 (.t 5), .bin 17 .add (.t 16) (.c (.d (.i .i64 1))), .asg 5 (.t 17)]))))
def acwSzQueryS : AC := (.seq (.ops [.asg 4 (.c (.d (.i .i64 0)))]) (.seq (.ops [.mv 6 (.t 1), .mv 7 (.t 0), .len 8 (.t 7), .bin 9 .sub (.t 6) (.t 8), .asg 1 (.t 9)]) (.seq (.seq (.ops [.mv 10 (.t 1), .bin 11 .lss (.t 10) (.c (.d (.i .i64 0)))]) (.cond (.t 11) (.seq (.ops [.asg 4 (.c (.d (.i .i64 (-1))))]) .ret) .skip)) (.seq (.seq (.ops [.asg 5 (.c (.d (.i .i64 0)))]) (.block 0 acwSzQueryS_L0)) (.seq (.ops [.mv 26 (.t 1), .asg 4 (.t 26)]) .ret)))))
theorem trwSzQueryS : trFn Try.prog 71 = some (acwSzQueryS, [.mv 0 (.t 4)], 27) := by kernel_rfl
def qwSzQueryS (r : Int) : Exit → St → Prop := retQ [.mv 0 (.t 4)] fun x _ => x = (fun y => (.d (.i .i64 y))) r
def qwSzQueryS_0 (r : Int) : Exit → St → Prop := (thenK (wkK (avc Try.prog (.seq (.ops [.mv 26 (.t 1), .asg 4 (.t 26)]) .ret) (qwSzQueryS r))) (qwSzQueryS r))
def qwSzQueryS_1 (r : Int) : Exit → St → Prop := (blockK 0 (qwSzQueryS_0 r))
def stwSzQueryS_L0 (p0 : (List GQuery)) (x1 : Int) (x5 : Int) : St := ⟨[(0, (.d (.sl 6 (p0.map cGQuery)))), (1, (.d (.i .i64 x1))), (5, (.d (.i .i64 x5)))], []⟩
def acwSzValue : AC := (.seq (.ops [.box 2 (.t 0), .asg 4 (.c (.d (.i .i64 0)))]) (.seq (.ops [.mv 5 (.t 1), .fa 6 2 (.t 2), .ld 7 1 false (.t 6), .lns 8 (.t 7), .bin 9 .sub (.t 5) (.t 8), .asg 1 (.t 9)]) (.seq (.seq (.ops [.mv 10 (.t 1), .bin 11 .lss (.t 10) (.c (.d (.i .i64 0)))]) (.cond (.t 11) (.seq (.ops [.asg 4 (.c (.d (.i .i64 (-1))))]) .ret) .skip)) (.seq (.ops [.mv 12 (.t 1), .asg 4 (.t 12)]) .ret))))
theorem trwSzValue : trFn Try.prog 70 = some (acwSzValue, [.mv 0 (.t 4)], 13) := by kernel_rfl
def qwSzValue (r : Int) : Exit → St → Prop := retQ [.mv 0 (.t 4)] fun x _ => x = (fun y => (.d (.i .i64 y))) r
def acwSzSortKeyS_L0 : AC := (.loop (.seq (.seq (.ops [.mv 12 (.t 5), .mv 13 (.t 0), .len 14 (.t 13), .bin 15 .lss (.t 12) (.t 14)]) (.cond (.t 15) .skip (.exit 0))) (.seq (.block 1 (.seq (.ops [.mv 18 (.t 0), .mv 19 (.t 5), .ia 20 11 (.t 18) (.t 19), .ld 21 11 true (.t 20), .mv 22 (.t 1), .call (some 23) 119 [(.t 21), (.t 22)], .asg 1 (.t 23)]) (.seq (.ops [.mv 24 (.t 1), .bin 25 .lss (.t 24) (.c (.d (.i .i64 0)))]) (.cond (.t 25) (.seq (.ops [.asg 4 (.c (.d (.i .i64 (-1))))]) .ret) .skip)))) (.ops [.mv 16 (.t 5), .bin 17 .add (.t 16) (.c (.d (.i .i64 1))), .asg 5 (.t 17)]))))
def acwSzSortKeyS : AC := (.seq (.ops [.asg 4 (.c (.d (.i .i64 0)))]) (.seq (.ops [.mv 6 (.t 1), .mv 7 (.t 0), .len 8 (.t 7), .bin 9 .sub (.t 6) (.t 8), .asg 1 (.t 9)]) (.seq (.seq (.ops [.mv 10 (.t 1), .bin 11 .lss (.t 10) (.c (.d (.i .i64 0)))]) (.cond (.t 11) (.seq (.ops [.asg 4 (.c (.d (.i .i64 (-1))))]) .ret) .skip)) (.seq (.seq (.ops [.asg 5 (.c (.d (.i .i64 0)))]) (.block 0 acwSzSortKeyS_L0)) (.seq (.ops [.mv 26 (.t 1), .asg 4 (.t 26)]) .ret)))))
theorem trwSzSortKeyS : trFn Try.prog 57 = some (acwSzSortKeyS, [.mv 0 (.t 4)], 27) := by kernel_rfl
def qwSzSortKeyS (r : Int) : Exit → St → Prop := retQ [.mv 0 (.t 4)] fun x _ => x = (fun y => (.d (.i .i64 y))) r
def qwSzSortKeyS_0 (r : Int) : Exit → St → Prop := (thenK (wkK (avc Try.prog (.seq (.ops [.mv 26 (.t 1), .asg 4 (.t 26)]) .ret) (qwSzSortKeyS r))) (qwSzSortKeyS r))
def qwSzSortKeyS_1 (r : Int) : Exit → St → Prop := (blockK 0 (qwSzSortKeyS_0 r))
def stwSzSortKeyS_L0 (p0 : (List GSortKey)) (x1 : Int) (x5 : Int) : St := ⟨[(0, (.d (.sl 11 (p0.map cGSortKey)))), (1, (.d (.i .i64 x1))), (5, (.d (.i .i64 x5)))], []⟩
def acwSzSortKey : AC := (.seq (.ops [.box 2 (.t 0), .asg 4 (.c (.d (.i .i64 0)))]) (.seq (.ops [.fa 5 0 (.t 2), .ld 6 10 true (.t 5), .mv 7 (.t 1), .call (some 8) 19 [(.t 6), (.t 7)], .asg 1 (.t 8)]) (.seq (.seq (.ops [.mv 9 (.t 1), .bin 10 .lss (.t 9) (.c (.d (.i .i64 0)))]) (.cond (.t 10) (.seq (.ops [.asg 4 (.c (.d (.i .i64 (-1))))]) .ret) .skip)) (.seq (.ops [.mv 11 (.t 1), .asg 4 (.t 11)]) .ret))))
theorem trwSzSortKey : trFn Try.prog 119 = some (acwSzSortKey, [.mv 0 (.t 4)], 12) := by kernel_rfl
def qwSzSortKey (r : Int) : Exit → St → Prop := retQ [.mv 0 (.t 4)] fun x _ => x = (fun y => (.d (.i .i64 y))) r
def acwSzItemS_L0 : AC := (.loop (.seq (.seq (.ops [.mv 12 (.t 5), .mv 13 (.t 0), .len 14 (.t 13), .bin 15 .lss (.t 12) (.t 14)]) (.cond (.t 15) .skip (.exit 0))) (.seq (.block 1 (.seq (.ops [.mv 18 (.t 0), .mv 19 (.t 5), .ia 20 13 (.t 18) (.t 19), .ld 21 13 true (.t 20), .mv 22 (.t 1), .call (some 23) 117 [(.t 21), (.t 22)], .asg 1 (.t 23)]) (.seq (.ops [.mv 24 (.t 1), .bin 25 .lss (.t 24) (.c (.d (.i .i64 0)))]) (.cond (.t 25) (.seq (.ops [.asg 4 (.c (.d (.i .i64 (-1))))]) .ret) .skip)))) (.ops [.mv 16 (.t 5), .bin 17 .add (.t 16) (.c (.d (.i .i64 1))), .asg 5 (.t 17)]))))
def acwSzItemS : AC := (.seq (.ops [.asg 4 (.c (.d (.i .i64 0)))]) (.seq (.ops [.mv 6 (.t 1), .mv 7 (.t 0), .len 8 (.t 7), .bin 9 .sub (.t 6) (.t 8), .asg 1 (.t 9)]) (.seq (.seq (.ops [.mv 10 (.t 1), .bin 11 .lss (.t 10) (.c (.d (.i .i64 0)))]) (.cond (.t 11) (.seq (.ops [.asg 4 (.c (.d (.i .i64 (-1))))]) .ret) .skip)) (.seq (.seq (.ops [.asg 5 (.c (.d (.i .i64 0)))]) (.block 0 acwSzItemS_L0)) (.seq (.ops [.mv 26 (.t 1), .asg 4 (.t 26)]) .ret)))))
theorem trwSzItemS : trFn Try.prog 54 = some (acwSzItemS, [.mv 0 (.t 4)], 27) := by kernel_rfl
def qwSzItemS (r : Int) : Exit → St → Prop := retQ [.mv 0 (.t 4)] fun x _ => x = (fun y => (.d (.i .i64 y))) r
def qwSzItemS_0 (r : Int) : Exit → St → Prop := (thenK (wkK (avc Try.prog (.seq (.ops [.mv 26 (.t 1), .asg 4 (.t 26)]) .ret) (qwSzItemS r))) (qwSzItemS r))
def qwSzItemS_1 (r : Int) : Exit → St → Prop := (blockK 0 (qwSzItemS_0 r))
def stwSzItemS_L0 (p0 : (List GItem)) (x1 : Int) (x5 : Int) : St := ⟨[(0, (.d (.sl 13 (p0.map cGItem)))), (1, (.d (.i .i64 x1))), (5, (.d (.i .i64 x5)))], []⟩
def acwSzItem : AC := (.seq (.ops [.box 2 (.t 0), .asg 4 (.c (.d (.i .i64 0)))]) (.seq (.ops [.mv 5 (.t 1), .fa 6 1 (.t 2), .ld 7 1 false (.t 6), .lns 8 (.t 7), .bin 9 .sub (.t 5) (.t 8), .asg 1 (.t 9)]) (.seq (.seq (.ops [.mv 10 (.t 1), .bin 11 .lss (.t 10) (.c (.d (.i .i64 0)))]) (.cond (.t 11) (.seq (.ops [.asg 4 (.c (.d (.i .i64 (-1))))]) .ret) .skip)) (.seq (.ops [.fa 12 2 (.t 2), .ld 13 10 true (.t 12), .mv 14 (.t 1), .call (some 15) 19 [(.t 13), (.t 14)], .asg 1 (.t 15)]) (.seq (.seq (.ops [.mv 16 (.t 1), .bin 17 .lss (.t 16) (.c (.d (.i .i64 0)))]) (.cond (.t 17) (.seq (.ops [.asg 4 (.c (.d (.i .i64 (-1))))]) .ret) .skip)) (.seq (.ops [.mv 18 (.t 1), .fa 19 12 (.t 2), .ld 20 1 false (.t 19), .lns 21 (.t 20), .bin 22 .sub (.t 18) (.t 21), .asg 1 (.t 22)]) (.seq (.seq (.ops [.mv 23 (.t 1), .bin 24 .lss (.t 23) (.c (.d (.i .i64 0)))]) (.cond (.t 24) (.seq (.ops [.asg 4 (.c (.d (.i .i64 (-1))))]) .ret) .skip)) (.seq (.ops [.mv 25 (.t 1), .asg 4 (.t 25)]) .ret))))))))
theorem trwSzItem : trFn Try.prog 117 = some (acwSzItem, [.mv 0 (.t 4)], 26) := by kernel_rfl
def qwSzItem (r : Int) : Exit → St → Prop := retQ [.mv 0 (.t 4)] fun x _ => x = (fun y => (.d (.i .i64 y))) r
def acsWrapsIn_L0 : AC := (.loop (.seq (.seq (.ops [.mv 8 (.t 5), .mv 9 (.t 4), .len 10 (.t 9), .bin 11 .lss (.t 8) (.t 10)]) (.cond (.t 11) .skip (.exit 0))) (.seq (.block 1 (.ops [.mv 14 (.t 3), .mv 15 (.t 4), .mv 16 (.t 5), .ia 17 10 (.t 15) (.t 16), .ld 18 10 true (.t 17), .call (some 19) 20 [(.t 18)], .bin 20 .add (.t 14) (.t 19), .asg 3 (.t 20)])) (.ops [.mv 12 (.t 5), .bin 13 .add (.t 12) (.c (.d (.i .i64 1))), .asg 5 (.t 13)]))))
def acsWrapsIn : AC := (.seq (.ops [.box 1 (.t 0), .asg 2 (.c (.d (.i .i64 0)))]) (.seq (.ops [.asg 3 (.c (.d (.i .i64 0)))]) (.seq (.ops [.ld 6 6 true (.t 1), .call (some 7) 58 [(.t 6)], .asg 4 (.t 7)]) (.seq (.seq (.ops [.asg 5 (.c (.d (.i .i64 0)))]) (.block 0 acsWrapsIn_L0)) (.seq (.ops [.mv 21 (.t 3), .asg 2 (.t 21)]) .ret)))))
theorem trsWrapsIn : trFn Try.prog 24 = some (acsWrapsIn, [.mv 0 (.t 2)], 22) := by kernel_rfl
def qsWrapsIn (r : Int) : Exit → St → Prop := retQ [.mv 0 (.t 2)] fun x _ => x = (fun y => (.d (.i .i64 y))) r
def qsWrapsIn_0 (r : Int) : Exit → St → Prop := (thenK (wkK (avc Try.prog (.seq (.ops [.mv 21 (.t 3), .asg 2 (.t 21)]) .ret) (qsWrapsIn r))) (qsWrapsIn r))
def qsWrapsIn_1 (r : Int) : Exit → St → Prop := (blockK 0 (qsWrapsIn_0 r))
def stsWrapsIn_L0 (y1 : (List GExpr)) (x3 : Int) (x5 : Int) : St := ⟨[(3, (.d (.i .i64 x3))), (4, (.osl 4 49 10 (y1.map cGExpr))), (5, (.d (.i .i64 x5)))], []⟩
def acsL7Exprs_J1 : AC := (.ops [.mv 13 (.t 4), .bin 14 .add (.t 13) (.c (.d (.i .i64 1))), .asg 4 (.t 14)])
def acsL7Exprs_L0 : AC := (.loop (.seq (.seq (.ops [.mv 8 (.t 4), .fa 9 1 (.t 1), .ld 10 1 false (.t 9), .len 11 (.t 10), .bin 12 .lss (.t 8) (.t 11)]) (.cond (.t 12) .skip (.exit 0))) (.seq (.block 1 (.seq (.ops [.fa 15 1 (.t 1), .ld 16 1 false (.t 15), .mv 17 (.t 4), .ia 18 13 (.t 16) (.t 17), .fa 19 0 (.t 18), .ld 20 1 false (.t 19), .not 21 (.t 20)]) (.cond (.t 21) (.ops [.mv 22 (.t 3), .fa 23 1 (.t 1), .ld 24 1 false (.t 23), .mv 25 (.t 4), .ia 26 13 (.t 24) (.t 25), .fa 27 2 (.t 26), .ld 28 10 true (.t 27), .bsl 29 49 10 [(.t 28)], .app 30 49 10 136 (.t 22) (.t 29), .asg 3 (.t 30)]) .skip))) acsL7Exprs_J1)))
def acsL7Exprs_L2 : AC := (.loop (.seq (.seq (.ops [.mv 31 (.t 5), .fa 32 2 (.t 1), .ld 33 1 false (.t 32), .len 34 (.t 33), .bin 35 .lss (.t 31) (.t 34)]) (.cond (.t 35) .skip (.exit 2))) (.seq (.block 3 (.ops [.mv 38 (.t 3), .fa 39 2 (.t 1), .ld 40 1 false (.t 39), .mv 41 (.t 5), .ia 42 3 (.t 40) (.t 41), .fa 43 2 (.t 42), .ld 44 1 false (.t 43), .app 45 49 10 136 (.t 38) (.t 44), .asg 3 (.t 45)])) (.ops [.mv 36 (.t 5), .bin 37 .add (.t 36) (.c (.d (.i .i64 1))), .asg 5 (.t 37)]))))
def acsL7Exprs_L3 : AC := (.loop (.seq (.seq (.ops [.mv 50 (.t 6), .fa 51 4 (.t 1), .ld 52 1 false (.t 51), .len 53 (.t 52), .bin 54 .lss (.t 50) (.t 53)]) (.cond (.t 54) .skip (.exit 4))) (.seq (.block 5 (.ops [.mv 57 (.t 3), .fa 58 4 (.t 1), .ld 59 1 false (.t 58), .mv 60 (.t 6), .ia 61 11 (.t 59) (.t 60), .fa 62 0 (.t 61), .ld 63 10 true (.t 62), .bsl 64 49 10 [(.t 63)], .app 65 49 10 136 (.t 57) (.t 64), .asg 3 (.t 65)])) (.ops [.mv 55 (.t 6), .bin 56 .add (.t 55) (.c (.d (.i .i64 1))), .asg 6 (.t 56)]))))
def acsL7Exprs : AC := (.seq (.ops [.box 1 (.t 0), .asg 2 (.c (.nil 10))]) (.seq (.ops [.bsl 7 49 10 [], .asg 3 (.t 7)]) (.seq (.seq (.ops [.asg 4 (.c (.d (.i .i64 0)))]) (.block 0 acsL7Exprs_L0)) (.seq (.seq (.ops [.asg 5 (.c (.d (.i .i64 0)))]) (.block 2 acsL7Exprs_L2)) (.seq (.ops [.mv 46 (.t 3), .fa 47 3 (.t 1), .ld 48 1 false (.t 47), .app 49 49 10 136 (.t 46) (.t 48), .asg 3 (.t 49)]) (.seq (.seq (.ops [.asg 6 (.c (.d (.i .i64 0)))]) (.block 4 acsL7Exprs_L3)) (.seq (.ops [.mv 66 (.t 3), .asg 2 (.t 66)]) .ret)))))))
theorem trsL7Exprs : trFn Try.prog 58 = some (acsL7Exprs, [.mv 0 (.t 2)], 67) := by kernel_rfl
def qsL7Exprs (r : (List GExpr)) : Exit → St → Prop := retQ [.mv 0 (.t 2)] fun x b => x = (fun (y : (List GExpr)) => (.osl 2000000 49 10 (y.map cGExpr))) r ∧ bxHas ((fun (y : (List GExpr)) => []) r) b
def qsL7Exprs_0 (r : (List GExpr)) : Exit → St → Prop := (thenK (wkK (avc Try.prog (.seq (.seq (.ops [.asg 5 (.c (.d (.i .i64 0)))]) (.block 2 acsL7Exprs_L2)) (.seq (.ops [.mv 46 (.t 3), .fa 47 3 (.t 1), .ld 48 1 false (.t 47), .app 49 49 10 136 (.t 46) (.t 48), .asg 3 (.t 49)]) (.seq (.seq (.ops [.asg 6 (.c (.d (.i .i64 0)))]) (.block 4 acsL7Exprs_L3)) (.seq (.ops [.mv 66 (.t 3), .asg 2 (.t 66)]) .ret)))) (qsL7Exprs r))) (qsL7Exprs r))
def qsL7Exprs_1 (r : (List GExpr)) : Exit → St → Prop := (blockK 0 (qsL7Exprs_0 r))
def qsL7Exprs_2 (r : (List GExpr)) : Exit → St → Prop := (thenK (avc Try.prog acsL7Exprs_L0 (qsL7Exprs_1 r)) (qsL7Exprs_1 r))
def qsL7Exprs_3 (r : (List GExpr)) : Exit → St → Prop := (thenK (wkK (avc Try.prog (.seq (.ops [.mv 46 (.t 3), .fa 47 3 (.t 1), .ld 48 1 false (.t 47), .app 49 49 10 136 (.t 46) (.t 48), .asg 3 (.t 49)]) (.seq (.seq (.ops [.asg 6 (.c (.d (.i .i64 0)))]) (.block 4 acsL7Exprs_L3)) (.seq (.ops [.mv 66 (.t 3), .asg 2 (.t 66)]) .ret))) (qsL7Exprs r))) (qsL7Exprs r))
def qsL7Exprs_4 (r : (List GExpr)) : Exit → St → Prop := (blockK 2 (qsL7Exprs_3 r))
def qsL7Exprs_5 (r : (List GExpr)) : Exit → St → Prop := (thenK (wkK (avc Try.prog (.seq (.ops [.mv 66 (.t 3), .asg 2 (.t 66)]) .ret) (qsL7Exprs r))) (qsL7Exprs r))
def qsL7Exprs_6 (r : (List GExpr)) : Exit → St → Prop := (blockK 4 (qsL7Exprs_5 r))
def stsL7Exprs_L0 (p0 : GQuery) (x3 : (List GExpr)) (x4 : Int) : St := ⟨[(1, (.ptr 1 0)), (3, (.osl 3 49 10 (x3.map cGExpr))), (4, (.d (.i .i64 x4)))], [(1, [(.d (.b p0.distinct)), (.d (.sl 13 (p0.items.map cGItem))), (.d (.sl 3 (p0.from_.map cGSource))), (.d (.sl 10 (p0.where_.map cGExpr))), (.d (.sl 11 (p0.order.map cGSortKey))), (.d (.i .i64 p0.limit))])]⟩
def stsL7Exprs_J1 (x4 : Int) (p0 : GQuery) (x3_4 : (List GExpr)) : St := ⟨[(1, (.ptr 1 0)), (3, (.osl 3 49 10 (x3_4.map cGExpr))), (4, (.d (.i .i64 x4)))], [(1, [(.d (.b p0.distinct)), (.d (.sl 13 (p0.items.map cGItem))), (.d (.sl 3 (p0.from_.map cGSource))), (.d (.sl 10 (p0.where_.map cGExpr))), (.d (.sl 11 (p0.order.map cGSortKey))), (.d (.i .i64 p0.limit))])]⟩
def stsL7Exprs_L2 (p0 : GQuery) (x3_5 : (List GExpr)) (x5 : Int) : St := ⟨[(1, (.ptr 1 0)), (3, (.osl 3 49 10 (x3_5.map cGExpr))), (5, (.d (.i .i64 x5)))], [(1, [(.d (.b p0.distinct)), (.d (.sl 13 (p0.items.map cGItem))), (.d (.sl 3 (p0.from_.map cGSource))), (.d (.sl 10 (p0.where_.map cGExpr))), (.d (.sl 11 (p0.order.map cGSortKey))), (.d (.i .i64 p0.limit))])]⟩
def stsL7Exprs_L3 (p0 : GQuery) (x3_9 : (List GExpr)) (x6 : Int) : St := ⟨[(1, (.ptr 1 0)), (3, (.osl 3 49 10 (x3_9.map cGExpr))), (6, (.d (.i .i64 x6)))], [(1, [(.d (.b p0.distinct)), (.d (.sl 13 (p0.items.map cGItem))), (.d (.sl 3 (p0.from_.map cGSource))), (.d (.sl 10 (p0.where_.map cGExpr))), (.d (.sl 11 (p0.order.map cGSortKey))), (.d (.i .i64 p0.limit))])]⟩
def acsWraps_J1 : AC := (.ops [.mv 18 (.t 3), .fa 19 8 (.t 1), .ld 20 1 false (.t 19), .mv 21 (.t 4), .ia 22 10 (.t 20) (.t 21), .ld 23 10 true (.t 22), .call (some 24) 20 [(.t 23)], .bin 25 .add (.t 18) (.t 24), .asg 3 (.t 25)])
def acsWraps_L0 : AC := (.loop (.seq (.seq (.ops [.mv 6 (.t 4), .fa 7 8 (.t 1), .ld 8 1 false (.t 7), .len 9 (.t 8), .bin 10 .lss (.t 6) (.t 9)]) (.cond (.t 10) .skip (.exit 0))) (.seq (.block 1 (.seq (.seq (.ops [.ld 13 10 true (.t 1), .mv 14 (.t 4), .call (some 15) 72 [(.t 13), (.t 14)]]) (.cond (.t 15) (.ops [.mv 16 (.t 3), .bin 17 .add (.t 16) (.c (.d (.i .i64 1))), .asg 3 (.t 17)]) .skip)) acsWraps_J1)) (.ops [.mv 11 (.t 4), .bin 12 .add (.t 11) (.c (.d (.i .i64 1))), .asg 4 (.t 12)]))))
def acsWraps_L2 : AC := (.loop (.seq (.seq (.ops [.mv 26 (.t 5), .fa 27 9 (.t 1), .ld 28 1 false (.t 27), .len 29 (.t 28), .bin 30 .lss (.t 26) (.t 29)]) (.cond (.t 30) .skip (.exit 2))) (.seq (.block 3 (.ops [.mv 33 (.t 3), .fa 34 9 (.t 1), .ld 35 1 false (.t 34), .mv 36 (.t 5), .ia 37 6 (.t 35) (.t 36), .ld 38 6 true (.t 37), .call (some 39) 24 [(.t 38)], .bin 40 .add (.t 33) (.t 39), .asg 3 (.t 40)])) (.ops [.mv 31 (.t 5), .bin 32 .add (.t 31) (.c (.d (.i .i64 1))), .asg 5 (.t 32)]))))
def acsWraps : AC := (.seq (.ops [.box 1 (.t 0), .asg 2 (.c (.d (.i .i64 0)))]) (.seq (.ops [.asg 3 (.c (.d (.i .i64 0)))]) (.seq (.seq (.ops [.asg 4 (.c (.d (.i .i64 0)))]) (.block 0 acsWraps_L0)) (.seq (.seq (.ops [.asg 5 (.c (.d (.i .i64 0)))]) (.block 2 acsWraps_L2)) (.seq (.ops [.mv 41 (.t 3), .asg 2 (.t 41)]) .ret)))))
theorem trsWraps : trFn Try.prog 20 = some (acsWraps, [.mv 0 (.t 2)], 42) := by kernel_rfl
def qsWraps (r : Int) : Exit → St → Prop := retQ [.mv 0 (.t 2)] fun x _ => x = (fun y => (.d (.i .i64 y))) r
def qsWraps_0 (r : Int) : Exit → St → Prop := (thenK (wkK (avc Try.prog (.seq (.seq (.ops [.asg 5 (.c (.d (.i .i64 0)))]) (.block 2 acsWraps_L2)) (.seq (.ops [.mv 41 (.t 3), .asg 2 (.t 41)]) .ret)) (qsWraps r))) (qsWraps r))
def qsWraps_1 (r : Int) : Exit → St → Prop := (blockK 0 (qsWraps_0 r))
def qsWraps_2 (r : Int) : Exit → St → Prop := (thenK (avc Try.prog acsWraps_L0 (qsWraps_1 r)) (qsWraps_1 r))
def qsWraps_3 (r : Int) : Exit → St → Prop := (thenK (wkK (avc Try.prog (.ops [.mv 11 (.t 4), .bin 12 .add (.t 11) (.c (.d (.i .i64 1))), .asg 4 (.t 12)]) (qsWraps_2 r))) (qsWraps_2 r))
def qsWraps_4 (r : Int) : Exit → St → Prop := (blockK 1 (qsWraps_3 r))
def qsWraps_5 (r : Int) : Exit → St → Prop := (thenK (wkK (avc Try.prog (.seq (.ops [.mv 41 (.t 3), .asg 2 (.t 41)]) .ret) (qsWraps r))) (qsWraps r))
def qsWraps_6 (r : Int) : Exit → St → Prop := (blockK 2 (qsWraps_5 r))
def stsWraps_L0 (p0 : GExpr) (x3 : Int) (x4 : Int) : St := ⟨[(1, (.ptr 1 0)), (3, (.d (.i .i64 x3))), (4, (.d (.i .i64 x4)))], [(1, [(.d (.i .i64 p0.kind)), (.d (.i .i64 p0.op)), (.d (.b p0.not_)), (.d (.i .i64 p0.value.kind)), (.d (.i .i64 p0.value.num)), (.d (.s (bs p0.value.text))), (.d (.s (bs p0.qual))), (.d (.s (bs p0.name))), (.d (.sl 10 (p0.kids.map cGExpr))), (.d (.sl 6 (p0.sub.map cGQuery)))])]⟩
def stsWraps_J1 (x4 : Int) (p0 : GExpr) (x3_2 : Int) : St := ⟨[(1, (.ptr 1 0)), (3, (.d (.i .i64 x3_2))), (4, (.d (.i .i64 x4)))], [(1, [(.d (.i .i64 p0.kind)), (.d (.i .i64 p0.op)), (.d (.b p0.not_)), (.d (.i .i64 p0.value.kind)), (.d (.i .i64 p0.value.num)), (.d (.s (bs p0.value.text))), (.d (.s (bs p0.qual))), (.d (.s (bs p0.name))), (.d (.sl 10 (p0.kids.map cGExpr))), (.d (.sl 6 (p0.sub.map cGQuery)))])]⟩
def stsWraps_L2 (p0 : GExpr) (x3_3 : Int) (x5 : Int) : St := ⟨[(1, (.ptr 1 0)), (3, (.d (.i .i64 x3_3))), (5, (.d (.i .i64 x5)))], [(1, [(.d (.i .i64 p0.kind)), (.d (.i .i64 p0.op)), (.d (.b p0.not_)), (.d (.i .i64 p0.value.kind)), (.d (.i .i64 p0.value.num)), (.d (.s (bs p0.value.text))), (.d (.s (bs p0.qual))), (.d (.s (bs p0.name))), (.d (.sl 10 (p0.kids.map cGExpr))), (.d (.sl 6 (p0.sub.map cGQuery)))])]⟩
def acsWrapped : AC := (.seq (.ops [.box 2 (.t 0), .asg 4 (.c (.d (.b false)))]) (.seq (.dops [[], [], [1], [2], [3], [0, 4], [5, 5], [6], [7, 6], [6], [8, 9, 6], [10, 6], [11, 6, 6], [6], [6], [13, 14, 12, 6], [12, 15, 6], [6, 16], [17, 15, 0, 1, 2, 3, 4, 5, 6, 7, 8, 9, 10, 11, 12, 13, 14, 15, 16, 17]] [.mv 5 (.t 1), .fa 6 8 (.t 2), .ld 7 1 false (.t 6), .len 8 (.t 7), .bin 9 .sub (.t 8) (.c (.d (.i .i64 1))), .call (some 10) 126 [(.t 5), (.c (.d (.i .i64 0))), (.t 9)], .mv 11 (.t 10), .g 11 true (.fa 12 8 (.t 2)), .g 11 true (.ld 13 1 false (.t 12)), .g 11 true (.mv 14 (.t 1)), .g 11 true (.ia 15 10 (.t 13) (.t 14)), .g 11 true (.ld 16 10 true (.t 15)), .g 11 true (.call (some 17) 127 [(.t 16)]), .g 11 true (.ld 18 10 true (.t 2)), .g 11 true (.mv 19 (.t 1)), .g 11 true (.call (some 20) 128 [(.t 18), (.t 19)]), .g 11 true (.bin 21 .lss (.t 17) (.t 20)), .pick 22 (.t 11) (.t 21) (.c (.d (.b false))), .asg 4 (.t 22)]) .ret))
theorem trsWrapped : trFn Try.prog 72 = some (acsWrapped, [.mv 0 (.t 4)], 23) := by kernel_rfl
def qsWrapped (r : Bool) : Exit → St → Prop := retQ [.mv 0 (.t 4)] fun x _ => x = (fun y => (.d (.b y))) r
def acsNeeds_J0 : AC := (.seq (.ops [.asg 4 (.c (.d (.i .i64 5)))]) .ret)
def acsNeeds : AC := (.seq (.ops [.box 2 (.t 0), .asg 4 (.c (.d (.i .i64 0)))]) (.seq (.ops [.ld 6 10 true (.t 2), .call (some 7) 127 [(.t 6)], .asg 5 (.t 7)]) (.seq (.seq (.ops [.mv 8 (.t 1), .fa 9 8 (.t 2), .ld 10 1 false (.t 9), .len 11 (.t 10), .bin 12 .sub (.t 11) (.c (.d (.i .i64 1))), .call (some 13) 126 [(.t 8), (.c (.d (.i .i64 0))), (.t 12)], .not 14 (.t 13), .mv 15 (.t 14), .g 15 false (.mv 16 (.t 5)), .g 15 false (.bin 17 .eql (.t 16) (.c (.d (.i .i64 0)))), .pick 18 (.t 15) (.c (.d (.b true))) (.t 17), .mv 19 (.t 18), .g 19 false (.mv 20 (.t 5)), .g 19 false (.bin 21 .eql (.t 20) (.c (.d (.i .i64 9)))), .pick 22 (.t 19) (.c (.d (.b true))) (.t 21)]) (.cond (.t 22) (.seq (.ops [.asg 4 (.c (.d (.i .i64 0)))]) .ret) .skip)) (.seq (.seq (.ops [.fa 23 0 (.t 2), .ld 24 1 false (.t 23)]) (.block 0 (.seq (.ops [.bin 26 .eql (.t 24) (.c (.d (.i .i64 3))), .asg 25 (.t 26)]) (.cond (.t 25) (.seq (.ops [.mv 27 (.t 5), .asg 4 (.t 27)]) .ret) (.seq (.ops [.bin 29 .eql (.t 24) (.c (.d (.i .i64 4))), .asg 28 (.t 29)]) (.cond (.t 28) (.seq (.seq (.ops [.mv 30 (.t 5), .bin 31 .eql (.t 30) (.c (.d (.i .i64 4)))]) (.cond (.t 31) (.seq (.ops [.asg 4 (.c (.d (.i .i64 5)))]) .ret) .skip)) (.seq (.seq (.ops [.mv 32 (.t 1), .bin 33 .eql (.t 32) (.c (.d (.i .i64 0)))]) (.cond (.t 33) (.seq (.ops [.mv 34 (.t 5), .asg 4 (.t 34)]) .ret) .skip)) (.seq (.ops [.mv 35 (.t 5), .bin 36 .add (.t 35) (.c (.d (.i .i64 1))), .asg 4 (.t 36)]) .ret))) (.seq (.ops [.bin 38 .eql (.t 24) (.c (.d (.i .i64 7))), .asg 37 (.t 38)]) (.cond (.t 37) (.seq (.ops [.mv 39 (.t 1), .bin 40 .gtr (.t 39) (.c (.d (.i .i64 0)))]) (.cond (.t 40) (.seq (.ops [.asg 4 (.c (.d (.i .i64 1)))]) .ret) .skip)) .skip)))))))) acsNeeds_J0))))
theorem trsNeeds : trFn Try.prog 128 = some (acsNeeds, [.mv 0 (.t 4)], 41) := by kernel_rfl
def qsNeeds (r : Int) : Exit → St → Prop := retQ [.mv 0 (.t 4)] fun x _ => x = (fun y => (.d (.i .i64 y))) r
def stsNeeds_J0 : St := ⟨[], []⟩
def acsLevelOf_J1 : AC := (.cond (.t 9) (.seq (.ops [.asg 2 (.c (.d (.i .i64 4)))]) .ret) (.seq (.ops [.bin 15 .eql (.t 4) (.c (.d (.i .i64 3))), .asg 14 (.t 15)]) (.cond (.t 14) (.seq (.seq (.ops [.fa 16 1 (.t 1), .ld 17 1 false (.t 16), .bin 18 .eql (.t 17) (.c (.d (.i .i64 15)))]) (.cond (.t 18) (.seq (.ops [.asg 2 (.c (.d (.i .i64 3)))]) .ret) .skip)) (.seq (.ops [.fa 19 1 (.t 1), .ld 20 1 false (.t 19), .bin 21 .eql (.t 20) (.c (.d (.i .i64 16)))]) (.cond (.t 21) (.seq (.ops [.asg 2 (.c (.d (.i .i64 8)))]) .ret) .skip))) (.seq (.ops [.bin 23 .eql (.t 4) (.c (.d (.i .i64 4))), .asg 22 (.t 23)]) (.cond (.t 22) (.seq (.ops [.fa 24 1 (.t 1), .ld 25 1 false (.t 24), .call (some 26) 126 [(.t 25), (.c (.d (.i .i64 1))), (.c (.d (.i .i64 14)))]]) (.cond (.t 26) (.seq (.ops [.bsl 27 3 1 [(.c (.d (.i .i64 0))), (.c (.d (.i .i64 1))), (.c (.d (.i .i64 2))), (.c (.d (.i .i64 4))), (.c (.d (.i .i64 4))), (.c (.d (.i .i64 4))), (.c (.d (.i .i64 4))), (.c (.d (.i .i64 4))), (.c (.d (.i .i64 4))), (.c (.d (.i .i64 5))), (.c (.d (.i .i64 6))), (.c (.d (.i .i64 6))), (.c (.d (.i .i64 7))), (.c (.d (.i .i64 7))), (.c (.d (.i .i64 7)))], .fa 28 1 (.t 1), .ld 29 1 false (.t 28), .ia 30 1 (.t 27) (.t 29), .ld 31 1 false (.t 30), .asg 2 (.t 31)]) .ret) .skip)) .skip)))))
def acsLevelOf_J0 : AC := (.cond (.t 5) (.seq (.ops [.asg 2 (.c (.d (.i .i64 9)))]) .ret) (.seq (.seq (.ops [.bin 10 .eql (.t 4) (.c (.d (.i .i64 5))), .asg 9 (.t 10)]) (.cond (.t 9) .skip (.seq (.ops [.bin 11 .eql (.t 4) (.c (.d (.i .i64 6))), .asg 9 (.t 11)]) (.cond (.t 9) .skip (.seq (.ops [.bin 12 .eql (.t 4) (.c (.d (.i .i64 7))), .asg 9 (.t 12)]) (.cond (.t 9) .skip (.ops [.bin 13 .eql (.t 4) (.c (.d (.i .i64 8))), .asg 9 (.t 13)]))))))) acsLevelOf_J1))
def acsLevelOf_J2 : AC := (.seq (.ops [.asg 2 (.c (.d (.i .i64 0)))]) .ret)
def acsLevelOf : AC := (.seq (.ops [.box 1 (.t 0), .asg 2 (.c (.d (.i .i64 0)))]) (.seq (.seq (.ops [.fa 3 0 (.t 1), .ld 4 1 false (.t 3)]) (.block 0 (.seq (.seq (.ops [.bin 6 .eql (.t 4) (.c (.d (.i .i64 1))), .asg 5 (.t 6)]) (.cond (.t 5) .skip (.seq (.ops [.bin 7 .eql (.t 4) (.c (.d (.i .i64 2))), .asg 5 (.t 7)]) (.cond (.t 5) .skip (.ops [.bin 8 .eql (.t 4) (.c (.d (.i .i64 9))), .asg 5 (.t 8)]))))) acsLevelOf_J0))) acsLevelOf_J2))
theorem trsLevelOf : trFn Try.prog 127 = some (acsLevelOf, [.mv 0 (.t 2)], 32) := by kernel_rfl
def qsLevelOf (r : Int) : Exit → St → Prop := retQ [.mv 0 (.t 2)] fun x _ => x = (fun y => (.d (.i .i64 y))) r
def qsLevelOf_0 (r : Int) : Exit → St → Prop := (thenK (wkK (avc Try.prog acsLevelOf_J2 (qsLevelOf r))) (qsLevelOf r))
def qsLevelOf_1 (r : Int) : Exit → St → Prop := (blockK 0 (qsLevelOf_0 r))
def stsLevelOf_J0 (p0 : GExpr) (x5 : Bool) : St := ⟨[(1, (.ptr 1 0)), (4, (.d (.i .i64 p0.kind))), (5, (.d (.b x5)))], [(1, [(.d (.i .i64 p0.kind)), (.d (.i .i64 p0.op)), (.d (.b p0.not_)), (.d (.i .i64 p0.value.kind)), (.d (.i .i64 p0.value.num)), (.d (.s (bs p0.value.text))), (.d (.s (bs p0.qual))), (.d (.s (bs p0.name))), (.d (.sl 10 (p0.kids.map cGExpr))), (.d (.sl 6 (p0.sub.map cGQuery)))])]⟩
def stsLevelOf_J1 (p0 : GExpr) (x9 : Bool) : St := ⟨[(1, (.ptr 1 0)), (4, (.d (.i .i64 p0.kind))), (9, (.d (.b x9)))], [(1, [(.d (.i .i64 p0.kind)), (.d (.i .i64 p0.op)), (.d (.b p0.not_)), (.d (.i .i64 p0.value.kind)), (.d (.i .i64 p0.value.num)), (.d (.s (bs p0.value.text))), (.d (.s (bs p0.qual))), (.d (.s (bs p0.name))), (.d (.sl 10 (p0.kids.map cGExpr))), (.d (.sl 6 (p0.sub.map cGQuery)))])]⟩
def stsLevelOf_J2 : St := ⟨[], []⟩
def acsL1In : AC := (.seq (.ops [.asg 6 (.c (.d (.b false)))]) (.seq (.ops [.mv 7 (.t 0), .mv 8 (.t 1), .bin 9 .geq (.t 7) (.t 8), .mv 10 (.t 9), .g 10 true (.mv 11 (.t 0)), .g 10 true (.mv 12 (.t 2)), .g 10 true (.bin 13 .leq (.t 11) (.t 12)), .pick 14 (.t 10) (.t 13) (.c (.d (.b false))), .asg 6 (.t 14)]) .ret))
theorem trsL1In : trFn Try.prog 126 = some (acsL1In, [.mv 0 (.t 6)], 15) := by kernel_rfl
def qsL1In (r : Bool) : Exit → St → Prop := retQ [.mv 0 (.t 6)] fun x _ => x = (fun y => (.d (.b y))) r
def acwEqQuery : AC := (.seq (.ops [.box 2 (.t 0), .box 3 (.t 1), .asg 4 (.c (.d (.b false)))]) (.seq (.seq (.ops [.fa 5 0 (.t 2), .ld 6 1 false (.t 5), .fa 7 0 (.t 3), .ld 8 1 false (.t 7), .eqb 9 true (.t 6) (.t 8)]) (.cond (.t 9) (.seq (.ops [.asg 4 (.c (.d (.b false)))]) .ret) .skip)) (.seq (.seq (.ops [.fa 10 1 (.t 2), .ld 11 1 false (.t 10), .fa 12 1 (.t 3), .ld 13 1 false (.t 12), .call (some 14) 67 [(.t 11), (.t 13)], .not 15 (.t 14)]) (.cond (.t 15) (.seq (.ops [.asg 4 (.c (.d (.b false)))]) .ret) .skip)) (.seq (.seq (.ops [.fa 16 2 (.t 2), .ld 17 1 false (.t 16), .fa 18 2 (.t 3), .ld 19 1 false (.t 18), .call (some 20) 68 [(.t 17), (.t 19)], .not 21 (.t 20)]) (.cond (.t 21) (.seq (.ops [.asg 4 (.c (.d (.b false)))]) .ret) .skip)) (.seq (.seq (.ops [.fa 22 3 (.t 2), .ld 23 1 false (.t 22), .fa 24 3 (.t 3), .ld 25 1 false (.t 24), .call (some 26) 51 [(.t 23), (.t 25)], .not 27 (.t 26)]) (.cond (.t 27) (.seq (.ops [.asg 4 (.c (.d (.b false)))]) .ret) .skip)) (.seq (.seq (.ops [.fa 28 4 (.t 2), .ld 29 1 false (.t 28), .fa 30 4 (.t 3), .ld 31 1 false (.t 30), .call (some 32) 69 [(.t 29), (.t 31)], .not 33 (.t 32)]) (.cond (.t 33) (.seq (.ops [.asg 4 (.c (.d (.b false)))]) .ret) .skip)) (.seq (.seq (.ops [.fa 34 5 (.t 2), .ld 35 1 false (.t 34), .fa 36 5 (.t 3), .ld 37 1 false (.t 36), .bin 38 .neq (.t 35) (.t 37)]) (.cond (.t 38) (.seq (.ops [.asg 4 (.c (.d (.b false)))]) .ret) .skip)) (.seq (.ops [.asg 4 (.c (.d (.b true)))]) .ret))))))))
theorem trwEqQuery : trFn Try.prog 18 = some (acwEqQuery, [.mv 0 (.t 4)], 39) := by kernel_rfl
def qwEqQuery (r : Bool) : Exit → St → Prop := retQ [.mv 0 (.t 4)] fun x _ => x = (fun y => (.d (.b y))) r
def acwEqSourceS_L0 : AC := (.loop (.seq (.seq (.ops [.mv 11 (.t 5), .mv 12 (.t 0), .len 13 (.t 12), .bin 14 .lss (.t 11) (.t 13)]) (.cond (.t 14) .skip (.exit 0))) (.seq (.block 1 (.seq (.dops [[], [], [0, 1], [2], [], [], [4, 5], [6], [3, 7], [8]] [.mv 17 (.t 0), .mv 18 (.t 5), .ia 19 3 (.t 17) (.t 18), .ld 20 3 true (.t 19), .mv 21 (.t 1), .mv 22 (.t 5), .ia 23 3 (.t 21) (.t 22), .ld 24 3 true (.t 23), .call (some 25) 124 [(.t 20), (.t 24)], .not 26 (.t 25)]) (.cond (.t 26) (.seq (.ops [.asg 4 (.c (.d (.b false)))]) .ret) .skip))) (.ops [.mv 15 (.t 5), .bin 16 .add (.t 15) (.c (.d (.i .i64 1))), .asg 5 (.t 16)]))))
def acwEqSourceS : AC := (.seq (.ops [.asg 4 (.c (.d (.b false)))]) (.seq (.seq (.ops [.mv 6 (.t 0), .len 7 (.t 6), .mv 8 (.t 1), .len 9 (.t 8), .bin 10 .neq (.t 7) (.t 9)]) (.cond (.t 10) (.seq (.ops [.asg 4 (.c (.d (.b false)))]) .ret) .skip)) (.seq (.seq (.ops [.asg 5 (.c (.d (.i .i64 0)))]) (.block 0 acwEqSourceS_L0)) (.seq (.ops [.asg 4 (.c (.d (.b true)))]) .ret))))
theorem trwEqSourceS : trFn Try.prog 68 = some (acwEqSourceS, [.mv 0 (.t 4)], 27) := by kernel_rfl
def qwEqSourceS (r : Bool) : Exit → St → Prop := retQ [.mv 0 (.t 4)] fun x _ => x = (fun y => (.d (.b y))) r
def qwEqSourceS_0 (r : Bool) : Exit → St → Prop := (thenK (wkK (avc Try.prog (.seq (.ops [.asg 4 (.c (.d (.b true)))]) .ret) (qwEqSourceS r))) (qwEqSourceS r))
def qwEqSourceS_1 (r : Bool) : Exit → St → Prop := (blockK 0 (qwEqSourceS_0 r))
def stwEqSourceS_L0 (p0 : (List GSource)) (p1 : (List GSource)) (x5 : Int) : St := ⟨[(0, (.d (.sl 3 (p0.map cGSource)))), (1, (.d (.sl 3 (p1.map cGSource)))), (5, (.d (.i .i64 x5)))], []⟩
def acwEqSource : AC := (.seq (.ops [.box 2 (.t 0), .box 3 (.t 1), .asg 4 (.c (.d (.b false)))]) (.seq (.seq (.ops [.fa 5 0 (.t 2), .ld 6 1 false (.t 5), .fa 7 0 (.t 3), .ld 8 1 false (.t 7), .bin 9 .neq (.t 6) (.t 8)]) (.cond (.t 9) (.seq (.ops [.asg 4 (.c (.d (.b false)))]) .ret) .skip)) (.seq (.seq (.ops [.fa 10 1 (.t 2), .ld 11 1 false (.t 10), .fa 12 1 (.t 3), .ld 13 1 false (.t 12), .bin 14 .neq (.t 11) (.t 13)]) (.cond (.t 14) (.seq (.ops [.asg 4 (.c (.d (.b false)))]) .ret) .skip)) (.seq (.seq (.ops [.fa 15 2 (.t 2), .ld 16 1 false (.t 15), .fa 17 2 (.t 3), .ld 18 1 false (.t 17), .call (some 19) 51 [(.t 16), (.t 18)], .not 20 (.t 19)]) (.cond (.t 20) (.seq (.ops [.asg 4 (.c (.d (.b false)))]) .ret) .skip)) (.seq (.ops [.asg 4 (.c (.d (.b true)))]) .ret)))))
theorem trwEqSource : trFn Try.prog 124 = some (acwEqSource, [.mv 0 (.t 4)], 21) := by kernel_rfl
def qwEqSource (r : Bool) : Exit → St → Prop := retQ [.mv 0 (.t 4)] fun x _ => x = (fun y => (.d (.b y))) r
def acwEqExprS_L0 : AC := (.loop (.seq (.seq (.ops [.mv 11 (.t 5), .mv 12 (.t 0), .len 13 (.t 12), .bin 14 .lss (.t 11) (.t 13)]) (.cond (.t 14) .skip (.exit 0))) (.seq (.block 1 (.seq (.dops [[], [], [0, 1], [2], [], [], [4, 5], [6], [3, 7], [8]] [.mv 17 (.t 0), .mv 18 (.t 5), .ia 19 10 (.t 17) (.t 18), .ld 20 10 true (.t 19), .mv 21 (.t 1), .mv 22 (.t 5), .ia 23 10 (.t 21) (.t 22), .ld 24 10 true (.t 23), .call (some 25) 23 [(.t 20), (.t 24)], .not 26 (.t 25)]) (.cond (.t 26) (.seq (.ops [.asg 4 (.c (.d (.b false)))]) .ret) .skip))) (.ops [.mv 15 (.t 5), .bin 16 .add (.t 15) (.c (.d (.i .i64 1))), .asg 5 (.t 16)]))))
def acwEqExprS : AC := (.seq (.ops [.asg 4 (.c (.d (.b false)))]) (.seq (.seq (.ops [.mv 6 (.t 0), .len 7 (.t 6), .mv 8 (.t 1), .len 9 (.t 8), .bin 10 .neq (.t 7) (.t 9)]) (.cond (.t 10) (.seq (.ops [.asg 4 (.c (.d (.b false)))]) .ret) .skip)) (.seq (.seq (.ops [.asg 5 (.c (.d (.i .i64 0)))]) (.block 0 acwEqExprS_L0)) (.seq (.ops [.asg 4 (.c (.d (.b true)))]) .ret))))
theorem trwEqExprS : trFn Try.prog 51 = some (acwEqExprS, [.mv 0 (.t 4)], 27) := by kernel_rfl
def qwEqExprS (r : Bool) : Exit → St → Prop := retQ [.mv 0 (.t 4)] fun x _ => x = (fun y => (.d (.b y))) r
def qwEqExprS_0 (r : Bool) : Exit → St → Prop := (thenK (wkK (avc Try.prog (.seq (.ops [.asg 4 (.c (.d (.b true)))]) .ret) (qwEqExprS r))) (qwEqExprS r))
def qwEqExprS_1 (r : Bool) : Exit → St → Prop := (blockK 0 (qwEqExprS_0 r))
def stwEqExprS_L0 (p0 : (List GExpr)) (p1 : (List GExpr)) (x5 : Int) : St := ⟨[(0, (.d (.sl 10 (p0.map cGExpr)))), (1, (.d (.sl 10 (p1.map cGExpr)))), (5, (.d (.i .i64 x5)))], []⟩
def acwEqExpr : AC := (.seq (.ops [.box 2 (.t 0), .box 3 (.t 1), .asg 4 (.c (.d (.b false)))]) (.seq (.seq (.ops [.fa 5 0 (.t 2), .ld 6 1 false (.t 5), .fa 7 0 (.t 3), .ld 8 1 false (.t 7), .bin 9 .neq (.t 6) (.t 8)]) (.cond (.t 9) (.seq (.ops [.asg 4 (.c (.d (.b false)))]) .ret) .skip)) (.seq (.seq (.ops [.fa 10 1 (.t 2), .ld 11 1 false (.t 10), .fa 12 1 (.t 3), .ld 13 1 false (.t 12), .bin 14 .neq (.t 11) (.t 13)]) (.cond (.t 14) (.seq (.ops [.asg 4 (.c (.d (.b false)))]) .ret) .skip)) (.seq (.seq (.ops [.fa 15 2 (.t 2), .ld 16 1 false (.t 15), .fa 17 2 (.t 3), .ld 18 1 false (.t 17), .eqb 19 true (.t 16) (.t 18)]) (.cond (.t 19) (.seq (.ops [.asg 4 (.c (.d (.b false)))]) .ret) .skip)) (.seq (.seq (.ops [.fa 20 3 (.t 2), .ld 21 3 true (.t 20), .fa 22 3 (.t 3), .ld 23 3 true (.t 22), .call (some 24) 77 [(.t 21), (.t 23)], .not 25 (.t 24)]) (.cond (.t 25) (.seq (.ops [.asg 4 (.c (.d (.b false)))]) .ret) .skip)) (.seq (.seq (.ops [.fa 26 6 (.t 2), .ld 27 1 false (.t 26), .fa 28 6 (.t 3), .ld 29 1 false (.t 28), .bin 30 .neq (.t 27) (.t 29)]) (.cond (.t 30) (.seq (.ops [.asg 4 (.c (.d (.b false)))]) .ret) .skip)) (.seq (.seq (.ops [.fa 31 7 (.t 2), .ld 32 1 false (.t 31), .fa 33 7 (.t 3), .ld 34 1 false (.t 33), .bin 35 .neq (.t 32) (.t 34)]) (.cond (.t 35) (.seq (.ops [.asg 4 (.c (.d (.b false)))]) .ret) .skip)) (.seq (.seq (.ops [.fa 36 8 (.t 2), .ld 37 1 false (.t 36), .fa 38 8 (.t 3), .ld 39 1 false (.t 38), .call (some 40) 51 [(.t 37), (.t 39)], .not 41 (.t 40)]) (.cond (.t 41) (.seq (.ops [.asg 4 (.c (.d (.b false)))]) .ret) .skip)) (.seq (.seq (.ops [.fa 42 9 (.t 2), .ld 43 1 false (.t 42), .fa 44 9 (.t 3), .ld 45 1 false (.t 44), .call (some 46) 78 [(.t 43), (.t 45)], .not 47 (.t 46)]) (.cond (.t 47) (.seq (.ops [.asg 4 (.c (.d (.b false)))]) .ret) .skip)) (.seq (.ops [.asg 4 (.c (.d (.b true)))]) .ret))))))))))
theorem trwEqExpr : trFn Try.prog 23 = some (acwEqExpr, [.mv 0 (.t 4)], 48) := by kernel_rfl
def qwEqExpr (r : Bool) : Exit → St → Prop := retQ [.mv 0 (.t 4)] fun x _ => x = (fun y => (.d (.b y))) r
def acwEqQueryS_L0 : AC := (.loop (.seq (.seq (.ops [.mv 11 (.t 5), .mv 12 (.t 0), .len 13 (.t 12), .bin 14 .lss (.t 11) (.t 13)]) (.cond (.t 14) .skip (.exit 0))) (.seq (.block 1 (.seq (.dops [[], [], [0, 1], [2], [], [], [4, 5], [6], [3, 7], [8]] [.mv 17 (.t 0), .mv 18 (.t 5), .ia 19 6 (.t 17) (.t 18), .ld 20 6 true (.t 19), .mv 21 (.t 1), .mv 22 (.t 5), .ia 23 6 (.t 21) (.t 22), .ld 24 6 true (.t 23), .call (some 25) 18 [(.t 20), (.t 24)], .not 26 (.t 25)]) (.cond (.t 26) (.seq (.ops [.asg 4 (.c (.d (.b false)))]) .ret) .skip))) (.ops [.mv 15 (.t 5), .bin 16 .add (.t 15) (.c (.d (.i .i64 1))), .asg 5 (.t 16)]))))
def acwEqQueryS : AC := (.seq (.ops [.asg 4 (.c (.d (.b false)))]) (.seq (.seq (.ops [.mv 6 (.t 0), .len 7 (.t 6), .mv 8 (.t 1), .len 9 (.t 8), .bin 10 .neq (.t 7) (.t 9)]) (.cond (.t 10) (.seq (.ops [.asg 4 (.c (.d (.b false)))]) .ret) .skip)) (.seq (.seq (.ops [.asg 5 (.c (.d (.i .i64 0)))]) (.block 0 acwEqQueryS_L0)) (.seq (.ops [.asg 4 (.c (.d (.b true)))]) .ret))))
theorem trwEqQueryS : trFn Try.prog 78 = some (acwEqQueryS, [.mv 0 (.t 4)], 27) := by kernel_rfl
def qwEqQueryS (r : Bool) : Exit → St → Prop := retQ [.mv 0 (.t 4)] fun x _ => x = (fun y => (.d (.b y))) r
def qwEqQueryS_0 (r : Bool) : Exit → St → Prop := (thenK (wkK (avc Try.prog (.seq (.ops [.asg 4 (.c (.d (.b true)))]) .ret) (qwEqQueryS r))) (qwEqQueryS r))
def qwEqQueryS_1 (r : Bool) : Exit → St → Prop := (blockK 0 (qwEqQueryS_0 r))
def stwEqQueryS_L0 (p0 : (List GQuery)) (p1 : (List GQuery)) (x5 : Int) : St := ⟨[(0, (.d (.sl 6 (p0.map cGQuery)))), (1, (.d (.sl 6 (p1.map cGQuery)))), (5, (.d (.i .i64 x5)))], []⟩
def acwEqValue : AC := (.seq (.ops [.box 2 (.t 0), .box 3 (.t 1), .asg 4 (.c (.d (.b false)))]) (.seq (.seq (.ops [.fa 5 0 (.t 2), .ld 6 1 false (.t 5), .fa 7 0 (.t 3), .ld 8 1 false (.t 7), .bin 9 .neq (.t 6) (.t 8)]) (.cond (.t 9) (.seq (.ops [.asg 4 (.c (.d (.b false)))]) .ret) .skip)) (.seq (.seq (.ops [.fa 10 1 (.t 2), .ld 11 1 false (.t 10), .fa 12 1 (.t 3), .ld 13 1 false (.t 12), .bin 14 .neq (.t 11) (.t 13)]) (.cond (.t 14) (.seq (.ops [.asg 4 (.c (.d (.b false)))]) .ret) .skip)) (.seq (.seq (.ops [.fa 15 2 (.t 2), .ld 16 1 false (.t 15), .fa 17 2 (.t 3), .ld 18 1 false (.t 17), .bin 19 .neq (.t 16) (.t 18)]) (.cond (.t 19) (.seq (.ops [.asg 4 (.c (.d (.b false)))]) .ret) .skip)) (.seq (.ops [.asg 4 (.c (.d (.b true)))]) .ret)))))
theorem trwEqValue : trFn Try.prog 77 = some (acwEqValue, [.mv 0 (.t 4)], 20) := by kernel_rfl
def qwEqValue (r : Bool) : Exit → St → Prop := retQ [.mv 0 (.t 4)] fun x _ => x = (fun y => (.d (.b y))) r
def acwEqItemS_L0 : AC := (.loop (.seq (.seq (.ops [.mv 11 (.t 5), .mv 12 (.t 0), .len 13 (.t 12), .bin 14 .lss (.t 11) (.t 13)]) (.cond (.t 14) .skip (.exit 0))) (.seq (.block 1 (.seq (.dops [[], [], [0, 1], [2], [], [], [4, 5], [6], [3, 7], [8]] [.mv 17 (.t 0), .mv 18 (.t 5), .ia 19 13 (.t 17) (.t 18), .ld 20 13 true (.t 19), .mv 21 (.t 1), .mv 22 (.t 5), .ia 23 13 (.t 21) (.t 22), .ld 24 13 true (.t 23), .call (some 25) 123 [(.t 20), (.t 24)], .not 26 (.t 25)]) (.cond (.t 26) (.seq (.ops [.asg 4 (.c (.d (.b false)))]) .ret) .skip))) (.ops [.mv 15 (.t 5), .bin 16 .add (.t 15) (.c (.d (.i .i64 1))), .asg 5 (.t 16)]))))
def acwEqItemS : AC := (.seq (.ops [.asg 4 (.c (.d (.b false)))]) (.seq (.seq (.ops [.mv 6 (.t 0), .len 7 (.t 6), .mv 8 (.t 1), .len 9 (.t 8), .bin 10 .neq (.t 7) (.t 9)]) (.cond (.t 10) (.seq (.ops [.asg 4 (.c (.d (.b false)))]) .ret) .skip)) (.seq (.seq (.ops [.asg 5 (.c (.d (.i .i64 0)))]) (.block 0 acwEqItemS_L0)) (.seq (.ops [.asg 4 (.c (.d (.b true)))]) .ret))))
theorem trwEqItemS : trFn Try.prog 67 = some (acwEqItemS, [.mv 0 (.t 4)], 27) := by kernel_rfl
def qwEqItemS (r : Bool) : Exit → St → Prop := retQ [.mv 0 (.t 4)] fun x _ => x = (fun y => (.d (.b y))) r
def qwEqItemS_0 (r : Bool) : Exit → St → Prop := (thenK (wkK (avc Try.prog (.seq (.ops [.asg 4 (.c (.d (.b true)))]) .ret) (qwEqItemS r))) (qwEqItemS r))
def qwEqItemS_1 (r : Bool) : Exit → St → Prop := (blockK 0 (qwEqItemS_0 r))
def stwEqItemS_L0 (p0 : (List GItem)) (p1 : (List GItem)) (x5 : Int) : St := ⟨[(0, (.d (.sl 13 (p0.map cGItem)))), (1, (.d (.sl 13 (p1.map cGItem)))), (5, (.d (.i .i64 x5)))], []⟩
def acwEqItem : AC := (.seq (.ops [.box 2 (.t 0), .box 3 (.t 1), .asg 4 (.c (.d (.b false)))]) (.seq (.seq (.ops [.fa 5 0 (.t 2), .ld 6 1 false (.t 5), .fa 7 0 (.t 3), .ld 8 1 false (.t 7), .eqb 9 true (.t 6) (.t 8)]) (.cond (.t 9) (.seq (.ops [.asg 4 (.c (.d (.b false)))]) .ret) .skip)) (.seq (.seq (.ops [.fa 10 1 (.t 2), .ld 11 1 false (.t 10), .fa 12 1 (.t 3), .ld 13 1 false (.t 12), .bin 14 .neq (.t 11) (.t 13)]) (.cond (.t 14) (.seq (.ops [.asg 4 (.c (.d (.b false)))]) .ret) .skip)) (.seq (.seq (.ops [.fa 15 2 (.t 2), .ld 16 10 true (.t 15), .fa 17 2 (.t 3), .ld 18 10 true (.t 17), .call (some 19) 23 [(.t 16), (.t 18)], .not 20 (.t 19)]) (.cond (.t 20) (.seq (.ops [.asg 4 (.c (.d (.b false)))]) .ret) .skip)) (.seq (.seq (.ops [.fa 21 12 (.t 2), .ld 22 1 false (.t 21), .fa 23 12 (.t 3), .ld 24 1 false (.t 23), .bin 25 .neq (.t 22) (.t 24)]) (.cond (.t 25) (.seq (.ops [.asg 4 (.c (.d (.b false)))]) .ret) .skip)) (.seq (.ops [.asg 4 (.c (.d (.b true)))]) .ret))))))
theorem trwEqItem : trFn Try.prog 123 = some (acwEqItem, [.mv 0 (.t 4)], 26) := by kernel_rfl
def qwEqItem (r : Bool) : Exit → St → Prop := retQ [.mv 0 (.t 4)] fun x _ => x = (fun y => (.d (.b y))) r
def acwEqSortKeyS_L0 : AC := (.loop (.seq (.seq (.ops [.mv 11 (.t 5), .mv 12 (.t 0), .len 13 (.t 12), .bin 14 .lss (.t 11) (.t 13)]) (.cond (.t 14) .skip (.exit 0))) (.seq (.block 1 (.seq (.dops [[], [], [0, 1], [2], [], [], [4, 5], [6], [3, 7], [8]] [.mv 17 (.t 0), .mv 18 (.t 5), .ia 19 11 (.t 17) (.t 18), .ld 20 11 true (.t 19), .mv 21 (.t 1), .mv 22 (.t 5), .ia 23 11 (.t 21) (.t 22), .ld 24 11 true (.t 23), .call (some 25) 125 [(.t 20), (.t 24)], .not 26 (.t 25)]) (.cond (.t 26) (.seq (.ops [.asg 4 (.c (.d (.b false)))]) .ret) .skip))) (.ops [.mv 15 (.t 5), .bin 16 .add (.t 15) (.c (.d (.i .i64 1))), .asg 5 (.t 16)]))))
def acwEqSortKeyS : AC := (.seq (.ops [.asg 4 (.c (.d (.b false)))]) (.seq (.seq (.ops [.mv 6 (.t 0), .len 7 (.t 6), .mv 8 (.t 1), .len 9 (.t 8), .bin 10 .neq (.t 7) (.t 9)]) (.cond (.t 10) (.seq (.ops [.asg 4 (.c (.d (.b false)))]) .ret) .skip)) (.seq (.seq (.ops [.asg 5 (.c (.d (.i .i64 0)))]) (.block 0 acwEqSortKeyS_L0)) (.seq (.ops [.asg 4 (.c (.d (.b true)))]) .ret))))
theorem trwEqSortKeyS : trFn Try.prog 69 = some (acwEqSortKeyS, [.mv 0 (.t 4)], 27) := by kernel_rfl
def qwEqSortKeyS (r : Bool) : Exit → St → Prop := retQ [.mv 0 (.t 4)] fun x _ => x = (fun y => (.d (.b y))) r
def qwEqSortKeyS_0 (r : Bool) : Exit → St → Prop := (thenK (wkK (avc Try.prog (.seq (.ops [.asg 4 (.c (.d (.b true)))]) .ret) (qwEqSortKeyS r))) (qwEqSortKeyS r))
def qwEqSortKeyS_1 (r : Bool) : Exit → St → Prop := (blockK 0 (qwEqSortKeyS_0 r))
def stwEqSortKeyS_L0 (p0 : (List GSortKey)) (p1 : (List GSortKey)) (x5 : Int) : St := ⟨[(0, (.d (.sl 11 (p0.map cGSortKey)))), (1, (.d (.sl 11 (p1.map cGSortKey)))), (5, (.d (.i .i64 x5)))], []⟩
def acwEqSortKey : AC := (.seq (.ops [.box 2 (.t 0), .box 3 (.t 1), .asg 4 (.c (.d (.b false)))]) (.seq (.seq (.ops [.fa 5 0 (.t 2), .ld 6 10 true (.t 5), .fa 7 0 (.t 3), .ld 8 10 true (.t 7), .call (some 9) 23 [(.t 6), (.t 8)], .not 10 (.t 9)]) (.cond (.t 10) (.seq (.ops [.asg 4 (.c (.d (.b false)))]) .ret) .skip)) (.seq (.seq (.ops [.fa 11 10 (.t 2), .ld 12 1 false (.t 11), .fa 13 10 (.t 3), .ld 14 1 false (.t 13), .eqb 15 true (.t 12) (.t 14)]) (.cond (.t 15) (.seq (.ops [.asg 4 (.c (.d (.b false)))]) .ret) .skip)) (.seq (.ops [.asg 4 (.c (.d (.b true)))]) .ret))))
theorem trwEqSortKey : trFn Try.prog 125 = some (acwEqSortKey, [.mv 0 (.t 4)], 16) := by kernel_rfl
def qwEqSortKey (r : Bool) : Exit → St → Prop := retQ [.mv 0 (.t 4)] fun x _ => x = (fun y => (.d (.b y))) r
def acwToQuery : AC := (.seq (.ops [.box 1 (.t 0), .alc 2 [(.d (.b false)), (.nil 13), (.nil 3), (.nil 10), (.nil 11), (.d (.i .i64 0))]]) (.seq (.ops [.alc 3 [(.d (.b false)), (.nil 13), (.nil 3), (.nil 10), (.nil 11), (.d (.i .i64 0))]]) (.seq (.ops [.fa 4 0 (.t 1), .ld 5 1 false (.t 4), .fa 6 0 (.t 3), .st 1 (.t 6) (.t 5)]) (.seq (.ops [.fa 7 1 (.t 1), .ld 8 1 false (.t 7), .call (some 9) 61 [(.t 8)], .fa 10 1 (.t 3), .st 1 (.t 10) (.t 9)]) (.seq (.ops [.fa 11 2 (.t 1), .ld 12 1 false (.t 11), .call (some 13) 62 [(.t 12)], .fa 14 2 (.t 3), .st 1 (.t 14) (.t 13)]) (.seq (.ops [.fa 15 3 (.t 1), .ld 16 1 false (.t 15), .call (some 17) 63 [(.t 16)], .fa 18 3 (.t 3), .st 1 (.t 18) (.t 17)]) (.seq (.ops [.fa 19 4 (.t 1), .ld 20 1 false (.t 19), .call (some 21) 64 [(.t 20)], .fa 22 4 (.t 3), .st 1 (.t 22) (.t 21)]) (.seq (.ops [.fa 23 5 (.t 1), .ld 24 1 false (.t 23), .fa 25 5 (.t 3), .st 1 (.t 25) (.t 24)]) (.seq (.ops [.ld 26 6 true (.t 3), .st 6 (.t 2) (.t 26)]) .ret)))))))))
theorem trwToQuery : trFn Try.prog 16 = some (acwToQuery, [.ld 0 6 true (.t 2)], 27) := by kernel_rfl
def qwToQuery (r : GQuery) : Exit → St → Prop := retQ [.ld 0 6 true (.t 2)] fun x _ => x = (fun y => (vGQuery y)) r
def acwToSourceS_L0 : AC := (.loop (.seq (.seq (.ops [.mv 8 (.t 4), .mv 9 (.t 0), .len 10 (.t 9), .bin 11 .lss (.t 8) (.t 10)]) (.cond (.t 11) .skip (.exit 0))) (.seq (.block 1 (.ops [.mv 14 (.t 3), .mv 15 (.t 4), .mv 16 (.t 0), .mv 17 (.t 4), .ia 18 3 (.t 16) (.t 17), .ld 19 3 true (.t 18), .call (some 20) 121 [(.t 19)], .ia 21 3 (.t 14) (.t 15), .st 3 (.t 21) (.t 20)])) (.ops [.mv 12 (.t 4), .bin 13 .add (.t 12) (.c (.d (.i .i64 1))), .asg 4 (.t 13)]))))
def acwToSourceS : AC := (.seq (.ops [.asg 2 (.c (.nil 3))]) (.seq (.ops [.mv 5 (.t 0), .len 6 (.t 5), .mks 7 139 3 56 [(.s (bs [])), (.s (bs [])), (.sl 10 [])] (.t 6) (.t 6), .asg 3 (.t 7)]) (.seq (.seq (.ops [.asg 4 (.c (.d (.i .i64 0)))]) (.block 0 acwToSourceS_L0)) (.seq (.ops [.mv 22 (.t 3), .asg 2 (.t 22)]) .ret))))
theorem trwToSourceS : trFn Try.prog 62 = some (acwToSourceS, [.mv 0 (.t 2)], 23) := by kernel_rfl
def qwToSourceS (r : (List GSource)) : Exit → St → Prop := retQ [.mv 0 (.t 2)] fun x _ => x = (fun y => (.d (.sl 3 (y.map cGSource)))) r
def qwToSourceS_0 (r : (List GSource)) : Exit → St → Prop := (thenK (wkK (avc Try.prog (.seq (.ops [.mv 22 (.t 3), .asg 2 (.t 22)]) .ret) (qwToSourceS r))) (qwToSourceS r))
def qwToSourceS_1 (r : (List GSource)) : Exit → St → Prop := (blockK 0 (qwToSourceS_0 r))
def stwToSourceS_L0 (p0 : (List GSource)) (x4 : Int) (b7_0 : (List GSource)) : St := ⟨[(0, (.d (.sl 3 (p0.map cGSource)))), (3, (.msl 7 3 0 b7_0.length b7_0.length)), (4, (.d (.i .i64 x4)))], [(7, rowsV (b7_0.map cGSource))]⟩
def acwToSource : AC := (.seq (.ops [.box 1 (.t 0), .alc 2 [(.d (.s (bs []))), (.d (.s (bs []))), (.nil 10)]]) (.seq (.ops [.alc 3 [(.d (.s (bs []))), (.d (.s (bs []))), (.nil 10)]]) (.seq (.ops [.fa 4 0 (.t 1), .ld 5 1 false (.t 4), .fa 6 0 (.t 3), .st 1 (.t 6) (.t 5)]) (.seq (.ops [.fa 7 1 (.t 1), .ld 8 1 false (.t 7), .fa 9 1 (.t 3), .st 1 (.t 9) (.t 8)]) (.seq (.ops [.fa 10 2 (.t 1), .ld 11 1 false (.t 10), .call (some 12) 63 [(.t 11)], .fa 13 2 (.t 3), .st 1 (.t 13) (.t 12)]) (.seq (.ops [.ld 14 3 true (.t 3), .st 3 (.t 2) (.t 14)]) .ret))))))
theorem trwToSource : trFn Try.prog 121 = some (acwToSource, [.ld 0 3 true (.t 2)], 15) := by kernel_rfl
def qwToSource (r : GSource) : Exit → St → Prop := retQ [.ld 0 3 true (.t 2)] fun x _ => x = (fun y => (vGSource y)) r
def acwToExprS_L0 : AC := (.loop (.seq (.seq (.ops [.mv 8 (.t 4), .mv 9 (.t 0), .len 10 (.t 9), .bin 11 .lss (.t 8) (.t 10)]) (.cond (.t 11) .skip (.exit 0))) (.seq (.block 1 (.ops [.mv 14 (.t 3), .mv 15 (.t 4), .mv 16 (.t 0), .mv 17 (.t 4), .ia 18 10 (.t 16) (.t 17), .ld 19 10 true (.t 18), .call (some 20) 21 [(.t 19)], .ia 21 10 (.t 14) (.t 15), .st 10 (.t 21) (.t 20)])) (.ops [.mv 12 (.t 4), .bin 13 .add (.t 12) (.c (.d (.i .i64 1))), .asg 4 (.t 13)]))))
def acwToExprS : AC := (.seq (.ops [.asg 2 (.c (.nil 10))]) (.seq (.ops [.mv 5 (.t 0), .len 6 (.t 5), .mks 7 49 10 136 [(.i .i64 0), (.i .i64 0), (.b false), (.i .i64 0), (.i .i64 0), (.s (bs [])), (.s (bs [])), (.s (bs [])), (.sl 10 []), (.sl 6 [])] (.t 6) (.t 6), .asg 3 (.t 7)]) (.seq (.seq (.ops [.asg 4 (.c (.d (.i .i64 0)))]) (.block 0 acwToExprS_L0)) (.seq (.ops [.mv 22 (.t 3), .asg 2 (.t 22)]) .ret))))
theorem trwToExprS : trFn Try.prog 63 = some (acwToExprS, [.mv 0 (.t 2)], 23) := by kernel_rfl
def qwToExprS (r : (List GExpr)) : Exit → St → Prop := retQ [.mv 0 (.t 2)] fun x _ => x = (fun y => (.d (.sl 10 (y.map cGExpr)))) r
def qwToExprS_0 (r : (List GExpr)) : Exit → St → Prop := (thenK (wkK (avc Try.prog (.seq (.ops [.mv 22 (.t 3), .asg 2 (.t 22)]) .ret) (qwToExprS r))) (qwToExprS r))
def qwToExprS_1 (r : (List GExpr)) : Exit → St → Prop := (blockK 0 (qwToExprS_0 r))
def stwToExprS_L0 (p0 : (List GExpr)) (x4 : Int) (b7_0 : (List GExpr)) : St := ⟨[(0, (.d (.sl 10 (p0.map cGExpr)))), (3, (.msl 7 10 0 b7_0.length b7_0.length)), (4, (.d (.i .i64 x4)))], [(7, rowsV (b7_0.map cGExpr))]⟩
def acwToExpr : AC := (.seq (.ops [.box 1 (.t 0), .alc 2 [(.d (.i .i64 0)), (.d (.i .i64 0)), (.d (.b false)), (.d (.i .i64 0)), (.d (.i .i64 0)), (.d (.s (bs []))), (.d (.s (bs []))), (.d (.s (bs []))), (.nil 10), (.nil 6)]]) (.seq (.ops [.alc 3 [(.d (.i .i64 0)), (.d (.i .i64 0)), (.d (.b false)), (.d (.i .i64 0)), (.d (.i .i64 0)), (.d (.s (bs []))), (.d (.s (bs []))), (.d (.s (bs []))), (.nil 10), (.nil 6)]]) (.seq (.ops [.fa 4 0 (.t 1), .ld 5 1 false (.t 4), .fa 6 0 (.t 3), .st 1 (.t 6) (.t 5)]) (.seq (.ops [.fa 7 1 (.t 1), .ld 8 1 false (.t 7), .fa 9 1 (.t 3), .st 1 (.t 9) (.t 8)]) (.seq (.ops [.fa 10 2 (.t 1), .ld 11 1 false (.t 10), .fa 12 2 (.t 3), .st 1 (.t 12) (.t 11)]) (.seq (.ops [.fa 13 3 (.t 1), .ld 14 3 true (.t 13), .call (some 15) 73 [(.t 14)], .fa 16 3 (.t 3), .st 3 (.t 16) (.t 15)]) (.seq (.ops [.fa 17 6 (.t 1), .ld 18 1 false (.t 17), .fa 19 6 (.t 3), .st 1 (.t 19) (.t 18)]) (.seq (.ops [.fa 20 7 (.t 1), .ld 21 1 false (.t 20), .fa 22 7 (.t 3), .st 1 (.t 22) (.t 21)]) (.seq (.ops [.fa 23 8 (.t 1), .ld 24 1 false (.t 23), .call (some 25) 63 [(.t 24)], .fa 26 8 (.t 3), .st 1 (.t 26) (.t 25)]) (.seq (.ops [.fa 27 9 (.t 1), .ld 28 1 false (.t 27), .call (some 29) 74 [(.t 28)], .fa 30 9 (.t 3), .st 1 (.t 30) (.t 29)]) (.seq (.ops [.ld 31 10 true (.t 3), .st 10 (.t 2) (.t 31)]) .ret)))))))))))
theorem trwToExpr : trFn Try.prog 21 = some (acwToExpr, [.ld 0 10 true (.t 2)], 32) := by kernel_rfl
def qwToExpr (r : GExpr) : Exit → St → Prop := retQ [.ld 0 10 true (.t 2)] fun x _ => x = (fun y => (vGExpr y)) r
def acwToQueryS_L0 : AC := (.loop (.seq (.seq (.ops [.mv 8 (.t 4), .mv 9 (.t 0), .len 10 (.t 9), .bin 11 .lss (.t 8) (.t 10)]) (.cond (.t 11) .skip (.exit 0))) (.seq (.block 1 (.ops [.mv 14 (.t 3), .mv 15 (.t 4), .mv 16 (.t 0), .mv 17 (.t 4), .ia 18 6 (.t 16) (.t 17), .ld 19 6 true (.t 18), .call (some 20) 16 [(.t 19)], .ia 21 6 (.t 14) (.t 15), .st 6 (.t 21) (.t 20)])) (.ops [.mv 12 (.t 4), .bin 13 .add (.t 12) (.c (.d (.i .i64 1))), .asg 4 (.t 13)]))))
def acwToQueryS : AC := (.seq (.ops [.asg 2 (.c (.nil 6))]) (.seq (.ops [.mv 5 (.t 0), .len 6 (.t 5), .mks 7 35 6 112 [(.b false), (.sl 13 []), (.sl 3 []), (.sl 10 []), (.sl 11 []), (.i .i64 0)] (.t 6) (.t 6), .asg 3 (.t 7)]) (.seq (.seq (.ops [.asg 4 (.c (.d (.i .i64 0)))]) (.block 0 acwToQueryS_L0)) (.seq (.ops [.mv 22 (.t 3), .asg 2 (.t 22)]) .ret))))
theorem trwToQueryS : trFn Try.prog 74 = some (acwToQueryS, [.mv 0 (.t 2)], 23) := by kernel_rfl
def qwToQueryS (r : (List GQuery)) : Exit → St → Prop := retQ [.mv 0 (.t 2)] fun x _ => x = (fun y => (.d (.sl 6 (y.map cGQuery)))) r
def qwToQueryS_0 (r : (List GQuery)) : Exit → St → Prop := (thenK (wkK (avc Try.prog (.seq (.ops [.mv 22 (.t 3), .asg 2 (.t 22)]) .ret) (qwToQueryS r))) (qwToQueryS r))
def qwToQueryS_1 (r : (List GQuery)) : Exit → St → Prop := (blockK 0 (qwToQueryS_0 r))
def stwToQueryS_L0 (p0 : (List GQuery)) (x4 : Int) (b7_0 : (List GQuery)) : St := ⟨[(0, (.d (.sl 6 (p0.map cGQuery)))), (3, (.msl 7 6 0 b7_0.length b7_0.length)), (4, (.d (.i .i64 x4)))], [(7, rowsV (b7_0.map cGQuery))]⟩
def acwToValue : AC := (.seq (.ops [.box 1 (.t 0), .alc 2 [(.d (.i .i64 0)), (.d (.i .i64 0)), (.d (.s (bs [])))]]) (.seq (.ops [.alc 3 [(.d (.i .i64 0)), (.d (.i .i64 0)), (.d (.s (bs [])))]]) (.seq (.ops [.fa 4 0 (.t 1), .ld 5 1 false (.t 4), .fa 6 0 (.t 3), .st 1 (.t 6) (.t 5)]) (.seq (.ops [.fa 7 1 (.t 1), .ld 8 1 false (.t 7), .fa 9 1 (.t 3), .st 1 (.t 9) (.t 8)]) (.seq (.ops [.fa 10 2 (.t 1), .ld 11 1 false (.t 10), .fa 12 2 (.t 3), .st 1 (.t 12) (.t 11)]) (.seq (.ops [.ld 13 3 true (.t 3), .st 3 (.t 2) (.t 13)]) .ret))))))
theorem trwToValue : trFn Try.prog 73 = some (acwToValue, [.ld 0 3 true (.t 2)], 14) := by kernel_rfl
def qwToValue (r : GValue) : Exit → St → Prop := retQ [.ld 0 3 true (.t 2)] fun x _ => x = (fun y => (vGValue y)) r
def acwToSortKeyS_L0 : AC := (.loop (.seq (.seq (.ops [.mv 8 (.t 4), .mv 9 (.t 0), .len 10 (.t 9), .bin 11 .lss (.t 8) (.t 10)]) (.cond (.t 11) .skip (.exit 0))) (.seq (.block 1 (.ops [.mv 14 (.t 3), .mv 15 (.t 4), .mv 16 (.t 0), .mv 17 (.t 4), .ia 18 11 (.t 16) (.t 17), .ld 19 11 true (.t 18), .call (some 20) 122 [(.t 19)], .ia 21 11 (.t 14) (.t 15), .st 11 (.t 21) (.t 20)])) (.ops [.mv 12 (.t 4), .bin 13 .add (.t 12) (.c (.d (.i .i64 1))), .asg 4 (.t 13)]))))
def acwToSortKeyS : AC := (.seq (.ops [.asg 2 (.c (.nil 11))]) (.seq (.ops [.mv 5 (.t 0), .len 6 (.t 5), .mks 7 141 11 144 [(.i .i64 0), (.i .i64 0), (.b false), (.i .i64 0), (.i .i64 0), (.s (bs [])), (.s (bs [])), (.s (bs [])), (.sl 10 []), (.sl 6 []), (.b false)] (.t 6) (.t 6), .asg 3 (.t 7)]) (.seq (.seq (.ops [.asg 4 (.c (.d (.i .i64 0)))]) (.block 0 acwToSortKeyS_L0)) (.seq (.ops [.mv 22 (.t 3), .asg 2 (.t 22)]) .ret))))
theorem trwToSortKeyS : trFn Try.prog 64 = some (acwToSortKeyS, [.mv 0 (.t 2)], 23) := by kernel_rfl
def qwToSortKeyS (r : (List GSortKey)) : Exit → St → Prop := retQ [.mv 0 (.t 2)] fun x _ => x = (fun y => (.d (.sl 11 (y.map cGSortKey)))) r
def qwToSortKeyS_0 (r : (List GSortKey)) : Exit → St → Prop := (thenK (wkK (avc Try.prog (.seq (.ops [.mv 22 (.t 3), .asg 2 (.t 22)]) .ret) (qwToSortKeyS r))) (qwToSortKeyS r))
def qwToSortKeyS_1 (r : (List GSortKey)) : Exit → St → Prop := (blockK 0 (qwToSortKeyS_0 r))
def stwToSortKeyS_L0 (p0 : (List GSortKey)) (x4 : Int) (b7_0 : (List GSortKey)) : St := ⟨[(0, (.d (.sl 11 (p0.map cGSortKey)))), (3, (.msl 7 11 0 b7_0.length b7_0.length)), (4, (.d (.i .i64 x4)))], [(7, rowsV (b7_0.map cGSortKey))]⟩
def acwToSortKey : AC := (.seq (.ops [.box 1 (.t 0), .alc 2 [(.d (.i .i64 0)), (.d (.i .i64 0)), (.d (.b false)), (.d (.i .i64 0)), (.d (.i .i64 0)), (.d (.s (bs []))), (.d (.s (bs []))), (.d (.s (bs []))), (.nil 10), (.nil 6), (.d (.b false))]]) (.seq (.ops [.alc 3 [(.d (.i .i64 0)), (.d (.i .i64 0)), (.d (.b false)), (.d (.i .i64 0)), (.d (.i .i64 0)), (.d (.s (bs []))), (.d (.s (bs []))), (.d (.s (bs []))), (.nil 10), (.nil 6), (.d (.b false))]]) (.seq (.ops [.fa 4 0 (.t 1), .ld 5 10 true (.t 4), .call (some 6) 21 [(.t 5)], .fa 7 0 (.t 3), .st 10 (.t 7) (.t 6)]) (.seq (.ops [.fa 8 10 (.t 1), .ld 9 1 false (.t 8), .fa 10 10 (.t 3), .st 1 (.t 10) (.t 9)]) (.seq (.ops [.ld 11 11 true (.t 3), .st 11 (.t 2) (.t 11)]) .ret)))))
theorem trwToSortKey : trFn Try.prog 122 = some (acwToSortKey, [.ld 0 11 true (.t 2)], 12) := by kernel_rfl
def qwToSortKey (r : GSortKey) : Exit → St → Prop := retQ [.ld 0 11 true (.t 2)] fun x _ => x = (fun y => (vGSortKey y)) r
def acwToItemS_L0 : AC := (.loop (.seq (.seq (.ops [.mv 8 (.t 4), .mv 9 (.t 0), .len 10 (.t 9), .bin 11 .lss (.t 8) (.t 10)]) (.cond (.t 11) .skip (.exit 0))) (.seq (.block 1 (.ops [.mv 14 (.t 3), .mv 15 (.t 4), .mv 16 (.t 0), .mv 17 (.t 4), .ia 18 13 (.t 16) (.t 17), .ld 19 13 true (.t 18), .call (some 20) 120 [(.t 19)], .ia 21 13 (.t 14) (.t 15), .st 13 (.t 21) (.t 20)])) (.ops [.mv 12 (.t 4), .bin 13 .add (.t 12) (.c (.d (.i .i64 1))), .asg 4 (.t 13)]))))
def acwToItemS : AC := (.seq (.ops [.asg 2 (.c (.nil 13))]) (.seq (.ops [.mv 5 (.t 0), .len 6 (.t 5), .mks 7 137 13 176 [(.b false), (.s (bs [])), (.i .i64 0), (.i .i64 0), (.b false), (.i .i64 0), (.i .i64 0), (.s (bs [])), (.s (bs [])), (.s (bs [])), (.sl 10 []), (.sl 6 []), (.s (bs []))] (.t 6) (.t 6), .asg 3 (.t 7)]) (.seq (.seq (.ops [.asg 4 (.c (.d (.i .i64 0)))]) (.block 0 acwToItemS_L0)) (.seq (.ops [.mv 22 (.t 3), .asg 2 (.t 22)]) .ret))))
theorem trwToItemS : trFn Try.prog 61 = some (acwToItemS, [.mv 0 (.t 2)], 23) := by kernel_rfl
def qwToItemS (r : (List GItem)) : Exit → St → Prop := retQ [.mv 0 (.t 2)] fun x _ => x = (fun y => (.d (.sl 13 (y.map cGItem)))) r
def qwToItemS_0 (r : (List GItem)) : Exit → St → Prop := (thenK (wkK (avc Try.prog (.seq (.ops [.mv 22 (.t 3), .asg 2 (.t 22)]) .ret) (qwToItemS r))) (qwToItemS r))
def qwToItemS_1 (r : (List GItem)) : Exit → St → Prop := (blockK 0 (qwToItemS_0 r))
def stwToItemS_L0 (p0 : (List GItem)) (x4 : Int) (b7_0 : (List GItem)) : St := ⟨[(0, (.d (.sl 13 (p0.map cGItem)))), (3, (.msl 7 13 0 b7_0.length b7_0.length)), (4, (.d (.i .i64 x4)))], [(7, rowsV (b7_0.map cGItem))]⟩
def acwToItem : AC := (.seq (.ops [.box 1 (.t 0), .alc 2 [(.d (.b false)), (.d (.s (bs []))), (.d (.i .i64 0)), (.d (.i .i64 0)), (.d (.b false)), (.d (.i .i64 0)), (.d (.i .i64 0)), (.d (.s (bs []))), (.d (.s (bs []))), (.d (.s (bs []))), (.nil 10), (.nil 6), (.d (.s (bs [])))]]) (.seq (.ops [.alc 3 [(.d (.b false)), (.d (.s (bs []))), (.d (.i .i64 0)), (.d (.i .i64 0)), (.d (.b false)), (.d (.i .i64 0)), (.d (.i .i64 0)), (.d (.s (bs []))), (.d (.s (bs []))), (.d (.s (bs []))), (.nil 10), (.nil 6), (.d (.s (bs [])))]]) (.seq (.ops [.fa 4 0 (.t 1), .ld 5 1 false (.t 4), .fa 6 0 (.t 3), .st 1 (.t 6) (.t 5)]) (.seq (.ops [.fa 7 1 (.t 1), .ld 8 1 false (.t 7), .fa 9 1 (.t 3), .st 1 (.t 9) (.t 8)]) (.seq (.ops [.fa 10 2 (.t 1), .ld 11 10 true (.t 10), .call (some 12) 21 [(.t 11)], .fa 13 2 (.t 3), .st 10 (.t 13) (.t 12)]) (.seq (.ops [.fa 14 12 (.t 1), .ld 15 1 false (.t 14), .fa 16 12 (.t 3), .st 1 (.t 16) (.t 15)]) (.seq (.ops [.ld 17 13 true (.t 3), .st 13 (.t 2) (.t 17)]) .ret)))))))
theorem trwToItem : trFn Try.prog 120 = some (acwToItem, [.ld 0 13 true (.t 2)], 18) := by kernel_rfl
def qwToItem (r : GItem) : Exit → St → Prop := retQ [.ld 0 13 true (.t 2)] fun x _ => x = (fun y => (vGItem y)) r
def aciWrapsIn : AC := (.seq (.ops [.box 1 (.t 0), .asg 2 (.c (.d (.i .i64 0)))]) (.seq (.ops [.ld 3 6 true (.t 1), .call (some 4) 66 [(.t 3)], .call (some 5) 75 [(.t 4)], .asg 2 (.t 5)]) .ret))
theorem triWrapsIn : trFn Try.prog 25 = some (aciWrapsIn, [.mv 0 (.t 2)], 6) := by kernel_rfl
def qiWrapsIn (r : Int) : Exit → St → Prop := retQ [.mv 0 (.t 2)] fun x _ => x = (fun y => (.d (.i .i64 y))) r
def aciWrapsOfAll_L0 : AC := (.loop (.seq (.ops [.bin 9 .lss (.t 8) (.t 7)]) (.seq (.cond (.t 9) .skip (.exit 0)) (.seq (.block 1 (.seq (.ops [.ia 10 10 (.t 6) (.t 8), .ld 11 10 true (.t 10), .alc 5 [(.d (.i .i64 0)), (.d (.i .i64 0)), (.d (.b false)), (.d (.i .i64 0)), (.d (.i .i64 0)), (.d (.s (bs []))), (.d (.s (bs []))), (.d (.s (bs []))), (.nil 10), (.nil 6)], .st 10 (.t 5) (.t 11)]) (.ops [.mv 12 (.t 3), .ld 13 10 true (.t 5), .call (some 14) 22 [(.t 13)], .bin 15 .add (.t 12) (.t 14), .asg 3 (.t 15)]))) (.ops [.bin 16 .add (.t 8) (.c (.d (.i .i64 1))), .mv 8 (.t 16)])))))
def aciWrapsOfAll : AC := (.seq (.ops [.asg 2 (.c (.d (.i .i64 0)))]) (.seq (.ops [.asg 3 (.c (.d (.i .i64 0)))]) (.seq (.seq (.ops [.mv 6 (.t 0), .len 7 (.t 6), .mv 8 (.c (.d (.i .i64 0)))]) (.block 0 aciWrapsOfAll_L0)) (.seq (.ops [.mv 17 (.t 3), .asg 2 (.t 17)]) .ret))))
theorem triWrapsOfAll : trFn Try.prog 75 = some (aciWrapsOfAll, [.mv 0 (.t 2)], 18) := by kernel_rfl
def qiWrapsOfAll (r : Int) : Exit → St → Prop := retQ [.mv 0 (.t 2)] fun x _ => x = (fun y => (.d (.i .i64 y))) r
def qiWrapsOfAll_0 (r : Int) : Exit → St → Prop := (thenK (wkK (avc Try.prog (.seq (.ops [.mv 17 (.t 3), .asg 2 (.t 17)]) .ret) (qiWrapsOfAll r))) (qiWrapsOfAll r))
def qiWrapsOfAll_1 (r : Int) : Exit → St → Prop := (blockK 0 (qiWrapsOfAll_0 r))
def stiWrapsOfAll_L0 (p0 : (List GExpr)) (x3 : Int) (x8 : Int) : St := ⟨[(3, (.d (.i .i64 x3))), (6, (.d (.sl 10 (p0.map cGExpr)))), (7, (.d (.i .i64 (p0.length : Int)))), (8, (.d (.i .i64 x8)))], []⟩
def aciWraps_J1 : AC := (.ops [.bin 21 .add (.t 13) (.c (.d (.i .i64 1))), .mv 13 (.t 21)])
def aciWraps_L0 : AC := (.loop (.seq (.ops [.bin 14 .lss (.t 13) (.t 12)]) (.seq (.cond (.t 14) .skip (.exit 0)) (.seq (.block 1 (.seq (.ops [.mv 15 (.t 13), .asg 4 (.t 15)]) (.seq (.ops [.ld 16 10 true (.t 1), .mv 17 (.t 4), .call (some 18) 76 [(.t 16), (.t 17)]]) (.cond (.t 18) (.ops [.mv 19 (.t 3), .bin 20 .add (.t 19) (.c (.d (.i .i64 1))), .asg 3 (.t 20)]) .skip)))) aciWraps_J1))))
def aciWraps_L2 : AC := (.loop (.seq (.ops [.bin 26 .lss (.t 25) (.t 24)]) (.seq (.cond (.t 26) .skip (.exit 2)) (.seq (.block 3 (.seq (.ops [.ia 27 6 (.t 23) (.t 25), .ld 28 6 true (.t 27), .alc 6 [(.d (.b false)), (.nil 13), (.nil 3), (.nil 10), (.nil 11), (.d (.i .i64 0))], .st 6 (.t 6) (.t 28)]) (.ops [.mv 29 (.t 3), .ld 30 6 true (.t 6), .call (some 31) 25 [(.t 30)], .bin 32 .add (.t 29) (.t 31), .asg 3 (.t 32)]))) (.ops [.bin 33 .add (.t 25) (.c (.d (.i .i64 1))), .mv 25 (.t 33)])))))
def aciWraps : AC := (.seq (.ops [.box 1 (.t 0), .asg 2 (.c (.d (.i .i64 0)))]) (.seq (.ops [.fa 7 8 (.t 1), .ld 8 1 false (.t 7), .call (some 9) 75 [(.t 8)], .asg 3 (.t 9)]) (.seq (.seq (.ops [.fa 10 8 (.t 1), .ld 11 1 false (.t 10), .len 12 (.t 11), .mv 13 (.c (.d (.i .i64 0)))]) (.block 0 aciWraps_L0)) (.seq (.seq (.ops [.fa 22 9 (.t 1), .ld 23 1 false (.t 22), .len 24 (.t 23), .mv 25 (.c (.d (.i .i64 0)))]) (.block 2 aciWraps_L2)) (.seq (.ops [.mv 34 (.t 3), .asg 2 (.t 34)]) .ret)))))
theorem triWraps : trFn Try.prog 22 = some (aciWraps, [.mv 0 (.t 2)], 35) := by kernel_rfl
def qiWraps (r : Int) : Exit → St → Prop := retQ [.mv 0 (.t 2)] fun x _ => x = (fun y => (.d (.i .i64 y))) r
def qiWraps_0 (r : Int) : Exit → St → Prop := (thenK (wkK (avc Try.prog (.seq (.seq (.ops [.fa 22 9 (.t 1), .ld 23 1 false (.t 22), .len 24 (.t 23), .mv 25 (.c (.d (.i .i64 0)))]) (.block 2 aciWraps_L2)) (.seq (.ops [.mv 34 (.t 3), .asg 2 (.t 34)]) .ret)) (qiWraps r))) (qiWraps r))
def qiWraps_1 (r : Int) : Exit → St → Prop := (blockK 0 (qiWraps_0 r))
def qiWraps_2 (r : Int) : Exit → St → Prop := (thenK (avc Try.prog aciWraps_L0 (qiWraps_1 r)) (qiWraps_1 r))
def qiWraps_3 (r : Int) : Exit → St → Prop := (thenK (wkK (avc Try.prog (.seq (.ops [.mv 34 (.t 3), .asg 2 (.t 34)]) .ret) (qiWraps r))) (qiWraps r))
def qiWraps_4 (r : Int) : Exit → St → Prop := (blockK 2 (qiWraps_3 r))
def stiWraps_L0 (p0 : GExpr) (x3 : Int) (x13 : Int) : St := ⟨[(1, (.ptr 1 0)), (3, (.d (.i .i64 x3))), (12, (.d (.i .i64 (p0.kids.length : Int)))), (13, (.d (.i .i64 x13)))], [(1, [(.d (.i .i64 p0.kind)), (.d (.i .i64 p0.op)), (.d (.b p0.not_)), (.d (.i .i64 p0.value.kind)), (.d (.i .i64 p0.value.num)), (.d (.s (bs p0.value.text))), (.d (.s (bs p0.qual))), (.d (.s (bs p0.name))), (.d (.sl 10 (p0.kids.map cGExpr))), (.d (.sl 6 (p0.sub.map cGQuery)))])]⟩
def stiWraps_J1 (p0 : GExpr) (x13 : Int) (x3_3 : Int) : St := ⟨[(1, (.ptr 1 0)), (3, (.d (.i .i64 x3_3))), (12, (.d (.i .i64 (p0.kids.length : Int)))), (13, (.d (.i .i64 x13)))], [(1, [(.d (.i .i64 p0.kind)), (.d (.i .i64 p0.op)), (.d (.b p0.not_)), (.d (.i .i64 p0.value.kind)), (.d (.i .i64 p0.value.num)), (.d (.s (bs p0.value.text))), (.d (.s (bs p0.qual))), (.d (.s (bs p0.name))), (.d (.sl 10 (p0.kids.map cGExpr))), (.d (.sl 6 (p0.sub.map cGQuery)))])]⟩
def stiWraps_L2 (p0 : GExpr) (x3_4 : Int) (x25 : Int) : St := ⟨[(3, (.d (.i .i64 x3_4))), (23, (.d (.sl 6 (p0.sub.map cGQuery)))), (24, (.d (.i .i64 (p0.sub.length : Int)))), (25, (.d (.i .i64 x25)))], []⟩
def aciWrapped : AC := (.seq (.ops [.box 2 (.t 0), .asg 4 (.c (.d (.b false)))]) (.seq (.dops [[], [0], [1], [2], [2], [4, 2], [5, 2], [3, 6, 2], [2, 7], [8, 2], [9], [10, 9], [9], [11, 12, 9], [13, 9], [14, 9, 9], [9], [9], [16, 17, 15, 9], [15, 18, 9], [9, 19], [20, 18, 0, 1, 2, 3, 4, 5, 6, 7, 8, 9, 10, 11, 12, 13, 14, 15, 16, 17, 18, 19, 20]] [.mv 5 (.t 1), .bin 6 .geq (.t 5) (.c (.d (.i .i64 0))), .mv 7 (.t 6), .g 7 true (.mv 8 (.t 1)), .g 7 true (.fa 9 8 (.t 2)), .g 7 true (.ld 10 1 false (.t 9)), .g 7 true (.len 11 (.t 10)), .g 7 true (.bin 12 .lss (.t 8) (.t 11)), .pick 13 (.t 7) (.t 12) (.c (.d (.b false))), .mv 14 (.t 13), .g 14 true (.fa 15 8 (.t 2)), .g 14 true (.ld 16 1 false (.t 15)), .g 14 true (.mv 17 (.t 1)), .g 14 true (.ia 18 10 (.t 16) (.t 17)), .g 14 true (.ld 19 10 true (.t 18)), .g 14 true (.call (some 20) 129 [(.t 19)]), .g 14 true (.ld 21 10 true (.t 2)), .g 14 true (.mv 22 (.t 1)), .g 14 true (.call (some 23) 130 [(.t 21), (.t 22)]), .g 14 true (.bin 24 .lss (.t 20) (.t 23)), .pick 25 (.t 14) (.t 24) (.c (.d (.b false))), .asg 4 (.t 25)]) .ret))
theorem triWrapped : trFn Try.prog 76 = some (aciWrapped, [.mv 0 (.t 4)], 26) := by kernel_rfl
def qiWrapped (r : Bool) : Exit → St → Prop := retQ [.mv 0 (.t 4)] fun x _ => x = (fun y => (.d (.b y))) r
def aciNeeds_J0 : AC := (.seq (.ops [.asg 4 (.c (.d (.i .i64 5)))]) .ret)
def aciNeeds : AC := (.seq (.ops [.box 2 (.t 0), .asg 4 (.c (.d (.i .i64 0)))]) (.seq (.ops [.ld 6 10 true (.t 2), .call (some 7) 129 [(.t 6)], .asg 5 (.t 7)]) (.seq (.seq (.ops [.mv 8 (.t 1), .bin 9 .lss (.t 8) (.c (.d (.i .i64 0))), .mv 10 (.t 9), .g 10 false (.mv 11 (.t 1)), .g 10 false (.fa 12 8 (.t 2)), .g 10 false (.ld 13 1 false (.t 12)), .g 10 false (.len 14 (.t 13)), .g 10 false (.bin 15 .geq (.t 11) (.t 14)), .pick 16 (.t 10) (.c (.d (.b true))) (.t 15), .mv 17 (.t 16), .g 17 false (.mv 18 (.t 5)), .g 17 false (.bin 19 .eql (.t 18) (.c (.d (.i .i64 0)))), .pick 20 (.t 17) (.c (.d (.b true))) (.t 19), .mv 21 (.t 20), .g 21 false (.mv 22 (.t 5)), .g 21 false (.bin 23 .eql (.t 22) (.c (.d (.i .i64 9)))), .pick 24 (.t 21) (.c (.d (.b true))) (.t 23)]) (.cond (.t 24) (.seq (.ops [.asg 4 (.c (.d (.i .i64 0)))]) .ret) .skip)) (.seq (.seq (.ops [.fa 25 0 (.t 2), .ld 26 1 false (.t 25)]) (.block 0 (.seq (.ops [.bin 28 .eql (.t 26) (.c (.d (.i .i64 4))), .asg 27 (.t 28)]) (.cond (.t 27) (.seq (.seq (.ops [.mv 29 (.t 5), .bin 30 .eql (.t 29) (.c (.d (.i .i64 4)))]) (.cond (.t 30) (.seq (.ops [.asg 4 (.c (.d (.i .i64 5)))]) .ret) .skip)) (.seq (.ops [.mv 31 (.t 5), .mv 32 (.t 1), .min 33 (.t 32) (.c (.d (.i .i64 1))), .bin 34 .add (.t 31) (.t 33), .asg 4 (.t 34)]) .ret)) (.seq (.ops [.bin 36 .eql (.t 26) (.c (.d (.i .i64 3))), .asg 35 (.t 36)]) (.cond (.t 35) (.seq (.ops [.mv 37 (.t 5), .asg 4 (.t 37)]) .ret) (.seq (.ops [.bin 39 .eql (.t 26) (.c (.d (.i .i64 7))), .asg 38 (.t 39)]) (.cond (.t 38) (.seq (.ops [.mv 40 (.t 1), .bin 41 .gtr (.t 40) (.c (.d (.i .i64 0)))]) (.cond (.t 41) (.seq (.ops [.asg 4 (.c (.d (.i .i64 1)))]) .ret) .skip)) .skip)))))))) aciNeeds_J0))))
theorem triNeeds : trFn Try.prog 130 = some (aciNeeds, [.mv 0 (.t 4)], 42) := by kernel_rfl
def qiNeeds (r : Int) : Exit → St → Prop := retQ [.mv 0 (.t 4)] fun x _ => x = (fun y => (.d (.i .i64 y))) r
def stiNeeds_J0 : St := ⟨[], []⟩
def aciLevelOf_J0 : AC := (.seq (.ops [.asg 2 (.c (.d (.i .i64 0)))]) .ret)
def aciLevelOf_J2 : AC := (.cond (.t 23) (.seq (.ops [.asg 2 (.c (.d (.i .i64 9)))]) .ret) .skip)
def aciLevelOf_J1 : AC := (.cond (.t 18) (.seq (.ops [.asg 2 (.c (.d (.i .i64 4)))]) .ret) (.seq (.seq (.ops [.bin 24 .eql (.t 4) (.c (.d (.i .i64 1))), .asg 23 (.t 24)]) (.cond (.t 23) .skip (.seq (.ops [.bin 25 .eql (.t 4) (.c (.d (.i .i64 2))), .asg 23 (.t 25)]) (.cond (.t 23) .skip (.ops [.bin 26 .eql (.t 4) (.c (.d (.i .i64 9))), .asg 23 (.t 26)]))))) aciLevelOf_J2))
def aciLevelOf : AC := (.seq (.ops [.box 1 (.t 0), .asg 2 (.c (.d (.i .i64 0)))]) (.seq (.seq (.ops [.fa 3 0 (.t 1), .ld 4 1 false (.t 3)]) (.block 0 (.seq (.ops [.bin 6 .eql (.t 4) (.c (.d (.i .i64 4))), .asg 5 (.t 6)]) (.cond (.t 5) (.seq (.ops [.fa 7 1 (.t 1), .ld 8 1 false (.t 7), .call (some 9) 176 [(.t 8)], .asg 2 (.t 9)]) .ret) (.seq (.ops [.bin 11 .eql (.t 4) (.c (.d (.i .i64 3))), .asg 10 (.t 11)]) (.cond (.t 10) (.seq (.ops [.fa 12 1 (.t 1), .ld 13 1 false (.t 12)]) (.block 1 (.seq (.ops [.bin 15 .eql (.t 13) (.c (.d (.i .i64 15))), .asg 14 (.t 15)]) (.cond (.t 14) (.seq (.ops [.asg 2 (.c (.d (.i .i64 3)))]) .ret) (.seq (.ops [.bin 17 .eql (.t 13) (.c (.d (.i .i64 16))), .asg 16 (.t 17)]) (.cond (.t 16) (.seq (.ops [.asg 2 (.c (.d (.i .i64 8)))]) .ret) .skip)))))) (.seq (.seq (.ops [.bin 19 .eql (.t 4) (.c (.d (.i .i64 5))), .asg 18 (.t 19)]) (.cond (.t 18) .skip (.seq (.ops [.bin 20 .eql (.t 4) (.c (.d (.i .i64 6))), .asg 18 (.t 20)]) (.cond (.t 18) .skip (.seq (.ops [.bin 21 .eql (.t 4) (.c (.d (.i .i64 7))), .asg 18 (.t 21)]) (.cond (.t 18) .skip (.ops [.bin 22 .eql (.t 4) (.c (.d (.i .i64 8))), .asg 18 (.t 22)]))))))) aciLevelOf_J1))))))) aciLevelOf_J0))
theorem triLevelOf : trFn Try.prog 129 = some (aciLevelOf, [.mv 0 (.t 2)], 27) := by kernel_rfl
def qiLevelOf (r : Int) : Exit → St → Prop := retQ [.mv 0 (.t 2)] fun x _ => x = (fun y => (.d (.i .i64 y))) r
def qiLevelOf_0 (r : Int) : Exit → St → Prop := (thenK (wkK (avc Try.prog aciLevelOf_J0 (qiLevelOf r))) (qiLevelOf r))
def qiLevelOf_1 (r : Int) : Exit → St → Prop := (blockK 0 (qiLevelOf_0 r))
def stiLevelOf_J0 : St := ⟨[], []⟩
def stiLevelOf_J1 (p0 : GExpr) (x18 : Bool) : St := ⟨[(4, (.d (.i .i64 p0.kind))), (18, (.d (.b x18)))], []⟩
def stiLevelOf_J2 (x23 : Bool) : St := ⟨[(23, (.d (.b x23)))], []⟩
def aciBinLevel_J2 : AC := (.cond (.t 20) (.seq (.ops [.asg 2 (.c (.d (.i .i64 7)))]) .ret) .skip)
def aciBinLevel_J1 : AC := (.cond (.t 17) (.seq (.ops [.asg 2 (.c (.d (.i .i64 6)))]) .ret) (.seq (.seq (.ops [.bin 21 .eql (.t 3) (.c (.d (.i .i64 12))), .asg 20 (.t 21)]) (.cond (.t 20) .skip (.seq (.ops [.bin 22 .eql (.t 3) (.c (.d (.i .i64 13))), .asg 20 (.t 22)]) (.cond (.t 20) .skip (.ops [.bin 23 .eql (.t 3) (.c (.d (.i .i64 14))), .asg 20 (.t 23)]))))) aciBinLevel_J2))
def aciBinLevel_J0 : AC := (.cond (.t 8) (.seq (.ops [.asg 2 (.c (.d (.i .i64 4)))]) .ret) (.seq (.ops [.bin 16 .eql (.t 3) (.c (.d (.i .i64 9))), .asg 15 (.t 16)]) (.cond (.t 15) (.seq (.ops [.asg 2 (.c (.d (.i .i64 5)))]) .ret) (.seq (.seq (.ops [.bin 18 .eql (.t 3) (.c (.d (.i .i64 10))), .asg 17 (.t 18)]) (.cond (.t 17) .skip (.ops [.bin 19 .eql (.t 3) (.c (.d (.i .i64 11))), .asg 17 (.t 19)]))) aciBinLevel_J1))))
def aciBinLevel : AC := (.seq (.ops [.asg 2 (.c (.d (.i .i64 0)))]) (.seq (.seq (.ops [.mv 3 (.t 0)]) (.block 0 (.seq (.ops [.bin 5 .eql (.t 3) (.c (.d (.i .i64 1))), .asg 4 (.t 5)]) (.cond (.t 4) (.seq (.ops [.asg 2 (.c (.d (.i .i64 1)))]) .ret) (.seq (.ops [.bin 7 .eql (.t 3) (.c (.d (.i .i64 2))), .asg 6 (.t 7)]) (.cond (.t 6) (.seq (.ops [.asg 2 (.c (.d (.i .i64 2)))]) .ret) (.seq (.seq (.ops [.bin 9 .eql (.t 3) (.c (.d (.i .i64 3))), .asg 8 (.t 9)]) (.cond (.t 8) .skip (.seq (.ops [.bin 10 .eql (.t 3) (.c (.d (.i .i64 4))), .asg 8 (.t 10)]) (.cond (.t 8) .skip (.seq (.ops [.bin 11 .eql (.t 3) (.c (.d (.i .i64 5))), .asg 8 (.t 11)]) (.cond (.t 8) .skip (.seq (.ops [.bin 12 .eql (.t 3) (.c (.d (.i .i64 6))), .asg 8 (.t 12)]) (.cond (.t 8) .skip (.seq (.ops [.bin 13 .eql (.t 3) (.c (.d (.i .i64 7))), .asg 8 (.t 13)]) (.cond (.t 8) .skip (.ops [.bin 14 .eql (.t 3) (.c (.d (.i .i64 8))), .asg 8 (.t 14)]))))))))))) aciBinLevel_J0))))))) (.seq (.ops [.asg 2 (.c (.d (.i .i64 0)))]) .ret)))
theorem triBinLevel : trFn Try.prog 176 = some (aciBinLevel, [.mv 0 (.t 2)], 24) := by kernel_rfl
def qiBinLevel (r : Int) : Exit → St → Prop := retQ [.mv 0 (.t 2)] fun x _ => x = (fun y => (.d (.i .i64 y))) r
def qiBinLevel_0 (r : Int) : Exit → St → Prop := (thenK (wkK (avc Try.prog (.seq (.ops [.asg 2 (.c (.d (.i .i64 0)))]) .ret) (qiBinLevel r))) (qiBinLevel r))
def qiBinLevel_1 (r : Int) : Exit → St → Prop := (blockK 0 (qiBinLevel_0 r))
def stiBinLevel_J0 (p0 : Int) (x8 : Bool) : St := ⟨[(3, (.d (.i .i64 p0))), (8, (.d (.b x8)))], []⟩
def stiBinLevel_J1 (p0 : Int) (x17 : Bool) : St := ⟨[(3, (.d (.i .i64 p0))), (17, (.d (.b x17)))], []⟩
def stiBinLevel_J2 (x20 : Bool) : St := ⟨[(20, (.d (.b x20)))], []⟩
def aciQuery_exprs_J1 : AC := (.ops [.bin 26 .add (.t 14) (.c (.d (.i .i64 1))), .mv 14 (.t 26)])
def aciQuery_exprs_L0 : AC := (.loop (.seq (.ops [.bin 15 .lss (.t 14) (.t 13)]) (.seq (.cond (.t 15) .skip (.exit 0)) (.seq (.block 1 (.seq (.ops [.ia 16 13 (.t 12) (.t 14), .ld 17 13 true (.t 16), .alc 5 [(.d (.b false)), (.d (.s (bs []))), (.d (.i .i64 0)), (.d (.i .i64 0)), (.d (.b false)), (.d (.i .i64 0)), (.d (.i .i64 0)), (.d (.s (bs []))), (.d (.s (bs []))), (.d (.s (bs []))), (.nil 10), (.nil 6), (.d (.s (bs [])))], .st 13 (.t 5) (.t 17)]) (.seq (.ops [.fa 18 0 (.t 5), .ld 19 1 false (.t 18), .not 20 (.t 19)]) (.cond (.t 20) (.ops [.mv 21 (.t 3), .fa 22 2 (.t 5), .ld 23 10 true (.t 22), .bsl 24 49 10 [(.t 23)], .app 25 49 10 136 (.t 21) (.t 24), .asg 3 (.t 25)]) .skip)))) aciQuery_exprs_J1))))
def aciQuery_exprs_L2 : AC := (.loop (.seq (.ops [.bin 31 .lss (.t 30) (.t 29)]) (.seq (.cond (.t 31) .skip (.exit 2)) (.seq (.block 3 (.seq (.ops [.ia 32 3 (.t 28) (.t 30), .ld 33 3 true (.t 32), .alc 7 [(.d (.s (bs []))), (.d (.s (bs []))), (.nil 10)], .st 3 (.t 7) (.t 33)]) (.ops [.mv 34 (.t 3), .fa 35 2 (.t 7), .ld 36 1 false (.t 35), .app 37 49 10 136 (.t 34) (.t 36), .asg 3 (.t 37)]))) (.ops [.bin 38 .add (.t 30) (.c (.d (.i .i64 1))), .mv 30 (.t 38)])))))
def aciQuery_exprs_L3 : AC := (.loop (.seq (.ops [.bin 47 .lss (.t 46) (.t 45)]) (.seq (.cond (.t 47) .skip (.exit 4)) (.seq (.block 5 (.seq (.ops [.ia 48 11 (.t 44) (.t 46), .ld 49 11 true (.t 48), .alc 9 [(.d (.i .i64 0)), (.d (.i .i64 0)), (.d (.b false)), (.d (.i .i64 0)), (.d (.i .i64 0)), (.d (.s (bs []))), (.d (.s (bs []))), (.d (.s (bs []))), (.nil 10), (.nil 6), (.d (.b false))], .st 11 (.t 9) (.t 49)]) (.ops [.mv 50 (.t 3), .fa 51 0 (.t 9), .ld 52 10 true (.t 51), .bsl 53 49 10 [(.t 52)], .app 54 49 10 136 (.t 50) (.t 53), .asg 3 (.t 54)]))) (.ops [.bin 55 .add (.t 46) (.c (.d (.i .i64 1))), .mv 46 (.t 55)])))))
def aciQuery_exprs : AC := (.seq (.ops [.box 1 (.t 0), .asg 2 (.c (.nil 10))]) (.seq (.ops [.bsl 10 49 10 [], .asg 3 (.t 10)]) (.seq (.seq (.ops [.fa 11 1 (.t 1), .ld 12 1 false (.t 11), .len 13 (.t 12), .mv 14 (.c (.d (.i .i64 0)))]) (.block 0 aciQuery_exprs_L0)) (.seq (.seq (.ops [.fa 27 2 (.t 1), .ld 28 1 false (.t 27), .len 29 (.t 28), .mv 30 (.c (.d (.i .i64 0)))]) (.block 2 aciQuery_exprs_L2)) (.seq (.ops [.mv 39 (.t 3), .fa 40 3 (.t 1), .ld 41 1 false (.t 40), .app 42 49 10 136 (.t 39) (.t 41), .asg 3 (.t 42)]) (.seq (.seq (.ops [.fa 43 4 (.t 1), .ld 44 1 false (.t 43), .len 45 (.t 44), .mv 46 (.c (.d (.i .i64 0)))]) (.block 4 aciQuery_exprs_L3)) (.seq (.ops [.mv 56 (.t 3), .asg 2 (.t 56)]) .ret)))))))
theorem triQuery_exprs : trFn Try.prog 66 = some (aciQuery_exprs, [.mv 0 (.t 2)], 57) := by kernel_rfl
def qiQuery_exprs (r : (List GExpr)) : Exit → St → Prop := retQ [.mv 0 (.t 2)] fun x b => x = (fun (y : (List GExpr)) => (.osl 2000000 49 10 (y.map cGExpr))) r ∧ bxHas ((fun (y : (List GExpr)) => []) r) b
def qiQuery_exprs_0 (r : (List GExpr)) : Exit → St → Prop := (thenK (wkK (avc Try.prog (.seq (.seq (.ops [.fa 27 2 (.t 1), .ld 28 1 false (.t 27), .len 29 (.t 28), .mv 30 (.c (.d (.i .i64 0)))]) (.block 2 aciQuery_exprs_L2)) (.seq (.ops [.mv 39 (.t 3), .fa 40 3 (.t 1), .ld 41 1 false (.t 40), .app 42 49 10 136 (.t 39) (.t 41), .asg 3 (.t 42)]) (.seq (.seq (.ops [.fa 43 4 (.t 1), .ld 44 1 false (.t 43), .len 45 (.t 44), .mv 46 (.c (.d (.i .i64 0)))]) (.block 4 aciQuery_exprs_L3)) (.seq (.ops [.mv 56 (.t 3), .asg 2 (.t 56)]) .ret)))) (qiQuery_exprs r))) (qiQuery_exprs r))
def qiQuery_exprs_1 (r : (List GExpr)) : Exit → St → Prop := (blockK 0 (qiQuery_exprs_0 r))
def qiQuery_exprs_2 (r : (List GExpr)) : Exit → St → Prop := (thenK (avc Try.prog aciQuery_exprs_L0 (qiQuery_exprs_1 r)) (qiQuery_exprs_1 r))
def qiQuery_exprs_3 (r : (List GExpr)) : Exit → St → Prop := (thenK (wkK (avc Try.prog (.seq (.ops [.mv 39 (.t 3), .fa 40 3 (.t 1), .ld 41 1 false (.t 40), .app 42 49 10 136 (.t 39) (.t 41), .asg 3 (.t 42)]) (.seq (.seq (.ops [.fa 43 4 (.t 1), .ld 44 1 false (.t 43), .len 45 (.t 44), .mv 46 (.c (.d (.i .i64 0)))]) (.block 4 aciQuery_exprs_L3)) (.seq (.ops [.mv 56 (.t 3), .asg 2 (.t 56)]) .ret))) (qiQuery_exprs r))) (qiQuery_exprs r))
def qiQuery_exprs_4 (r : (List GExpr)) : Exit → St → Prop := (blockK 2 (qiQuery_exprs_3 r))
def qiQuery_exprs_5 (r : (List GExpr)) : Exit → St → Prop := (thenK (wkK (avc Try.prog (.seq (.ops [.mv 56 (.t 3), .asg 2 (.t 56)]) .ret) (qiQuery_exprs r))) (qiQuery_exprs r))
def qiQuery_exprs_6 (r : (List GExpr)) : Exit → St → Prop := (blockK 4 (qiQuery_exprs_5 r))
def stiQuery_exprs_L0 (p0 : GQuery) (x3 : (List GExpr)) (x14 : Int) : St := ⟨[(1, (.ptr 1 0)), (3, (.osl 3 49 10 (x3.map cGExpr))), (12, (.d (.sl 13 (p0.items.map cGItem)))), (13, (.d (.i .i64 (p0.items.length : Int)))), (14, (.d (.i .i64 x14)))], [(1, [(.d (.b p0.distinct)), (.d (.sl 13 (p0.items.map cGItem))), (.d (.sl 3 (p0.from_.map cGSource))), (.d (.sl 10 (p0.where_.map cGExpr))), (.d (.sl 11 (p0.order.map cGSortKey))), (.d (.i .i64 p0.limit))])]⟩
def stiQuery_exprs_J1 (p0 : GQuery) (x14 : Int) (x3_3 : (List GExpr)) : St := ⟨[(1, (.ptr 1 0)), (3, (.osl 3 49 10 (x3_3.map cGExpr))), (12, (.d (.sl 13 (p0.items.map cGItem)))), (13, (.d (.i .i64 (p0.items.length : Int)))), (14, (.d (.i .i64 x14)))], [(1, [(.d (.b p0.distinct)), (.d (.sl 13 (p0.items.map cGItem))), (.d (.sl 3 (p0.from_.map cGSource))), (.d (.sl 10 (p0.where_.map cGExpr))), (.d (.sl 11 (p0.order.map cGSortKey))), (.d (.i .i64 p0.limit))])]⟩
def stiQuery_exprs_L2 (p0 : GQuery) (x3_4 : (List GExpr)) (x30 : Int) : St := ⟨[(1, (.ptr 1 0)), (3, (.osl 3 49 10 (x3_4.map cGExpr))), (28, (.d (.sl 3 (p0.from_.map cGSource)))), (29, (.d (.i .i64 (p0.from_.length : Int)))), (30, (.d (.i .i64 x30)))], [(1, [(.d (.b p0.distinct)), (.d (.sl 13 (p0.items.map cGItem))), (.d (.sl 3 (p0.from_.map cGSource))), (.d (.sl 10 (p0.where_.map cGExpr))), (.d (.sl 11 (p0.order.map cGSortKey))), (.d (.i .i64 p0.limit))])]⟩
def stiQuery_exprs_L3 (p0 : GQuery) (x3_8 : (List GExpr)) (x46 : Int) : St := ⟨[(3, (.osl 3 49 10 (x3_8.map cGExpr))), (44, (.d (.sl 11 (p0.order.map cGSortKey)))), (45, (.d (.i .i64 (p0.order.length : Int)))), (46, (.d (.i .i64 x46)))], []⟩
theorem koGValue (x : GValue) (h : ∀ d ∈ cGValue x, OkD d) : okGValue x := ⟨ko_i _ (ko_sub h 0 1), ko_i _ (ko_sub h 1 1), ko_s _ (ko_sub h 2 1)⟩
mutual
theorem koGExpr : ∀ x : GExpr, (∀ d ∈ cGExpr x, OkD d) → okGExpr x
  | ⟨a0, a1, a2, a3, a4, a5, a6, a7⟩, h0 => by
    rw [cGExpr_eq] at h0
    have h : ∀ d ∈ oGExpr ⟨a0, a1, a2, a3, a4, a5, a6, a7⟩, OkD d := h0
    unfold okGExpr
    exact ⟨ko_i _ (ko_sub h 0 1), ko_i _ (ko_sub h 1 1), trivial, koGValue a3 (ko_sub h 3 3), ko_s _ (ko_sub h 6 1), ko_s _ (ko_sub h 7 1), ⟨by simpa using (ko_len (ko_sub h 8 1)).1, koLGExpr a6 (ko_len (ko_sub h 8 1)).2⟩, ⟨by simpa using (ko_len (ko_sub h 9 1)).1, koLGQuery a7 (ko_len (ko_sub h 9 1)).2⟩⟩
theorem koGItem : ∀ x : GItem, (∀ d ∈ cGItem x, OkD d) → okGItem x
  | ⟨a0, a1, a2, a3⟩, h0 => by
    rw [cGItem_eq] at h0
    have h : ∀ d ∈ oGItem ⟨a0, a1, a2, a3⟩, OkD d := h0
    unfold okGItem
    exact ⟨trivial, ko_s _ (ko_sub h 1 1), koGExpr a2 (by rw [cGExpr_eq]; exact (ko_sub h 2 10)), ko_s _ (ko_sub h 12 1)⟩
theorem koGQuery : ∀ x : GQuery, (∀ d ∈ cGQuery x, OkD d) → okGQuery x
  | ⟨a0, a1, a2, a3, a4, a5⟩, h0 => by
    rw [cGQuery_eq] at h0
    have h : ∀ d ∈ oGQuery ⟨a0, a1, a2, a3, a4, a5⟩, OkD d := h0
    unfold okGQuery
    exact ⟨trivial, ⟨by simpa using (ko_len (ko_sub h 1 1)).1, koLGItem a1 (ko_len (ko_sub h 1 1)).2⟩, ⟨by simpa using (ko_len (ko_sub h 2 1)).1, koLGSource a2 (ko_len (ko_sub h 2 1)).2⟩, ⟨by simpa using (ko_len (ko_sub h 3 1)).1, koLGExpr a3 (ko_len (ko_sub h 3 1)).2⟩, ⟨by simpa using (ko_len (ko_sub h 4 1)).1, koLGSortKey a4 (ko_len (ko_sub h 4 1)).2⟩, ko_i _ (ko_sub h 5 1)⟩
theorem koGSortKey : ∀ x : GSortKey, (∀ d ∈ cGSortKey x, OkD d) → okGSortKey x
  | ⟨a0, a1⟩, h0 => by
    rw [cGSortKey_eq] at h0
    have h : ∀ d ∈ oGSortKey ⟨a0, a1⟩, OkD d := h0
    unfold okGSortKey
    exact ⟨koGExpr a0 (by rw [cGExpr_eq]; exact (ko_sub h 0 10)), trivial⟩
theorem koGSource : ∀ x : GSource, (∀ d ∈ cGSource x, OkD d) → okGSource x
  | ⟨a0, a1, a2⟩, h0 => by
    rw [cGSource_eq] at h0
    have h : ∀ d ∈ oGSource ⟨a0, a1, a2⟩, OkD d := h0
    unfold okGSource
    exact ⟨ko_s _ (ko_sub h 0 1), ko_s _ (ko_sub h 1 1), ⟨by simpa using (ko_len (ko_sub h 2 1)).1, koLGExpr a2 (ko_len (ko_sub h 2 1)).2⟩⟩
theorem koLGExpr : ∀ l : List GExpr, (∀ x ∈ l.map cGExpr, ∀ d ∈ x, OkD d) → okLGExpr l
  | [], _ => by unfold okLGExpr; trivial
  | x :: l, h => by
    unfold okLGExpr
    exact ⟨koGExpr x (h _ (by simp)), koLGExpr l fun y hy => h y (List.mem_cons_of_mem _ hy)⟩
theorem koLGItem : ∀ l : List GItem, (∀ x ∈ l.map cGItem, ∀ d ∈ x, OkD d) → okLGItem l
  | [], _ => by unfold okLGItem; trivial
  | x :: l, h => by
    unfold okLGItem
    exact ⟨koGItem x (h _ (by simp)), koLGItem l fun y hy => h y (List.mem_cons_of_mem _ hy)⟩
theorem koLGQuery : ∀ l : List GQuery, (∀ x ∈ l.map cGQuery, ∀ d ∈ x, OkD d) → okLGQuery l
  | [], _ => by unfold okLGQuery; trivial
  | x :: l, h => by
    unfold okLGQuery
    exact ⟨koGQuery x (h _ (by simp)), koLGQuery l fun y hy => h y (List.mem_cons_of_mem _ hy)⟩
theorem koLGSortKey : ∀ l : List GSortKey, (∀ x ∈ l.map cGSortKey, ∀ d ∈ x, OkD d) → okLGSortKey l
  | [], _ => by unfold okLGSortKey; trivial
  | x :: l, h => by
    unfold okLGSortKey
    exact ⟨koGSortKey x (h _ (by simp)), koLGSortKey l fun y hy => h y (List.mem_cons_of_mem _ hy)⟩
theorem koLGSource : ∀ l : List GSource, (∀ x ∈ l.map cGSource, ∀ d ∈ x, OkD d) → okLGSource l
  | [], _ => by unfold okLGSource; trivial
  | x :: l, h => by
    unfold okLGSource
    exact ⟨koGSource x (h _ (by simp)), koLGSource l fun y hy => h y (List.mem_cons_of_mem _ hy)⟩
end
theorem de4 {l : List D} (h : WtC Try.prog 4 l) : ∃ x : Bool, l = cB x := (wt_b h (by kernel_rfl))
theorem de9 {l : List D} (h : WtC Try.prog 9 l) : ∃ x : (List UInt8), l = cStr x := (wt_s h (by kernel_rfl))
theorem de3 {l : List D} (h : WtC Try.prog 3 l) : ∃ x : Int, l = cI x := (wt_i h (k := .i64) (by kernel_rfl))
theorem de40 {l : List D} (h : WtC Try.prog 40 l) : ∃ x : GValue, l = cGValue x := by
  obtain ⟨x0, e0⟩ := de3 (wt_fld h 0 (off := 0) (n := 1) (by kernel_rfl))
  obtain ⟨x1, e1⟩ := de3 (wt_fld h 1 (off := 1) (n := 1) (by kernel_rfl))
  obtain ⟨x2, e2⟩ := de9 (wt_fld h 2 (off := 2) (n := 1) (by kernel_rfl))
  exact ⟨⟨x0, x1, x2⟩, (dr1 (m := 1) (by kernel_rfl) e0 (dr1 (m := 2) (by kernel_rfl) e1 (dr1 (m := 3) (by kernel_rfl) e2 (dr0 (wt_len h (n := 3) (by kernel_rfl))))))⟩
def DS22 (n : Nat) : Prop := ∀ m : List D, SizeOf.sizeOf m ≤ n → (WtC Try.prog 22 m → ∃ x : (List GItem), m = (cSl 13 cGItem) x) ∧ (WtC Try.prog 23 m → ∃ x : (List GSource), m = (cSl 3 cGSource) x) ∧ (WtC Try.prog 24 m → ∃ x : (List GExpr), m = (cSl 10 cGExpr) x) ∧ (WtC Try.prog 25 m → ∃ x : (List GSortKey), m = (cSl 11 cGSortKey) x) ∧ (WtC Try.prog 41 m → ∃ x : (List GQuery), m = (cSl 6 cGQuery) x)
theorem DS22_le {n m : Nat} (h : DS22 n) (hm : m ≤ n) : DS22 m := fun l hl => h l (Nat.le_trans hl hm)
theorem de43_ {l : List D} (H : DS22 (SizeOf.sizeOf l)) (h : WtC Try.prog 43 l) : ∃ x : GExpr, l = cGExpr x := by
  obtain ⟨x0, e0⟩ := de3 (wt_fld h 0 (off := 0) (n := 1) (tf := 3) (by kernel_rfl))
  obtain ⟨x1, e1⟩ := de3 (wt_fld h 1 (off := 1) (n := 1) (tf := 3) (by kernel_rfl))
  obtain ⟨x2, e2⟩ := de4 (wt_fld h 2 (off := 2) (n := 1) (tf := 4) (by kernel_rfl))
  obtain ⟨x3, e3⟩ := de40 (wt_fld h 3 (off := 3) (n := 3) (tf := 40) (by kernel_rfl))
  obtain ⟨x4, e4⟩ := de9 (wt_fld h 4 (off := 6) (n := 1) (tf := 9) (by kernel_rfl))
  obtain ⟨x5, e5⟩ := de9 (wt_fld h 5 (off := 7) (n := 1) (tf := 9) (by kernel_rfl))
  obtain ⟨x6, e6⟩ := (H _ (size_sub l 8 1)).2.2.1 (wt_fld h 6 (off := 8) (n := 1) (tf := 24) (by kernel_rfl))
  obtain ⟨x7, e7⟩ := (H _ (size_sub l 9 1)).2.2.2.2 (wt_fld h 7 (off := 9) (n := 1) (tf := 41) (by kernel_rfl))
  exact ⟨⟨x0, x1, x2, x3, x4, x5, x6, x7⟩, (show l = oGExpr ⟨x0, x1, x2, x3, x4, x5, x6, x7⟩ from (dr1 (m := 1) (by kernel_rfl) e0 (dr1 (m := 2) (by kernel_rfl) e1 (dr1 (m := 3) (by kernel_rfl) e2 (dr1 (m := 6) (by kernel_rfl) e3 (dr1 (m := 7) (by kernel_rfl) e4 (dr1 (m := 8) (by kernel_rfl) e5 (dr1 (m := 9) (by kernel_rfl) e6 (dr1 (m := 10) (by kernel_rfl) e7 (dr0 (wt_len h (n := 10) (by kernel_rfl)))))))))))).trans (cGExpr_eq _).symm⟩
theorem de135_ {l : List D} (H : DS22 (SizeOf.sizeOf l)) (h : WtC Try.prog 135 l) : ∃ x : GSortKey, l = cGSortKey x := by
  obtain ⟨x0, e0⟩ := de43_ (DS22_le H (size_sub l 0 10)) (wt_fld h 0 (off := 0) (n := 10) (tf := 43) (by kernel_rfl))
  rw [cGExpr_eq] at e0
  obtain ⟨x1, e1⟩ := de4 (wt_fld h 1 (off := 10) (n := 1) (tf := 4) (by kernel_rfl))
  exact ⟨⟨x0, x1⟩, (show l = oGSortKey ⟨x0, x1⟩ from (dr1 (m := 10) (by kernel_rfl) e0 (dr1 (m := 11) (by kernel_rfl) e1 (dr0 (wt_len h (n := 11) (by kernel_rfl)))))).trans (cGSortKey_eq _).symm⟩
theorem de132_ {l : List D} (H : DS22 (SizeOf.sizeOf l)) (h : WtC Try.prog 132 l) : ∃ x : GSource, l = cGSource x := by
  obtain ⟨x0, e0⟩ := de9 (wt_fld h 0 (off := 0) (n := 1) (tf := 9) (by kernel_rfl))
  obtain ⟨x1, e1⟩ := de9 (wt_fld h 1 (off := 1) (n := 1) (tf := 9) (by kernel_rfl))
  obtain ⟨x2, e2⟩ := (H _ (size_sub l 2 1)).2.2.1 (wt_fld h 2 (off := 2) (n := 1) (tf := 24) (by kernel_rfl))
  exact ⟨⟨x0, x1, x2⟩, (show l = oGSource ⟨x0, x1, x2⟩ from (dr1 (m := 1) (by kernel_rfl) e0 (dr1 (m := 2) (by kernel_rfl) e1 (dr1 (m := 3) (by kernel_rfl) e2 (dr0 (wt_len h (n := 3) (by kernel_rfl))))))).trans (cGSource_eq _).symm⟩
theorem de129_ {l : List D} (H : DS22 (SizeOf.sizeOf l)) (h : WtC Try.prog 129 l) : ∃ x : GItem, l = cGItem x := by
  obtain ⟨x0, e0⟩ := de4 (wt_fld h 0 (off := 0) (n := 1) (tf := 4) (by kernel_rfl))
  obtain ⟨x1, e1⟩ := de9 (wt_fld h 1 (off := 1) (n := 1) (tf := 9) (by kernel_rfl))
  obtain ⟨x2, e2⟩ := de43_ (DS22_le H (size_sub l 2 10)) (wt_fld h 2 (off := 2) (n := 10) (tf := 43) (by kernel_rfl))
  rw [cGExpr_eq] at e2
  obtain ⟨x3, e3⟩ := de9 (wt_fld h 3 (off := 12) (n := 1) (tf := 9) (by kernel_rfl))
  exact ⟨⟨x0, x1, x2, x3⟩, (show l = oGItem ⟨x0, x1, x2, x3⟩ from (dr1 (m := 1) (by kernel_rfl) e0 (dr1 (m := 2) (by kernel_rfl) e1 (dr1 (m := 12) (by kernel_rfl) e2 (dr1 (m := 13) (by kernel_rfl) e3 (dr0 (wt_len h (n := 13) (by kernel_rfl)))))))).trans (cGItem_eq _).symm⟩
theorem de27_ {l : List D} (H : DS22 (SizeOf.sizeOf l)) (h : WtC Try.prog 27 l) : ∃ x : GQuery, l = cGQuery x := by
  obtain ⟨x0, e0⟩ := de4 (wt_fld h 0 (off := 0) (n := 1) (tf := 4) (by kernel_rfl))
  obtain ⟨x1, e1⟩ := (H _ (size_sub l 1 1)).1 (wt_fld h 1 (off := 1) (n := 1) (tf := 22) (by kernel_rfl))
  obtain ⟨x2, e2⟩ := (H _ (size_sub l 2 1)).2.1 (wt_fld h 2 (off := 2) (n := 1) (tf := 23) (by kernel_rfl))
  obtain ⟨x3, e3⟩ := (H _ (size_sub l 3 1)).2.2.1 (wt_fld h 3 (off := 3) (n := 1) (tf := 24) (by kernel_rfl))
  obtain ⟨x4, e4⟩ := (H _ (size_sub l 4 1)).2.2.2.1 (wt_fld h 4 (off := 4) (n := 1) (tf := 25) (by kernel_rfl))
  obtain ⟨x5, e5⟩ := de3 (wt_fld h 5 (off := 5) (n := 1) (tf := 3) (by kernel_rfl))
  exact ⟨⟨x0, x1, x2, x3, x4, x5⟩, (show l = oGQuery ⟨x0, x1, x2, x3, x4, x5⟩ from (dr1 (m := 1) (by kernel_rfl) e0 (dr1 (m := 2) (by kernel_rfl) e1 (dr1 (m := 3) (by kernel_rfl) e2 (dr1 (m := 4) (by kernel_rfl) e3 (dr1 (m := 5) (by kernel_rfl) e4 (dr1 (m := 6) (by kernel_rfl) e5 (dr0 (wt_len h (n := 6) (by kernel_rfl)))))))))).trans (cGQuery_eq _).symm⟩
theorem DS22_all : ∀ n, DS22 n := by
  intro n
  induction n with
  | zero =>
    intro m hm
    have : m = [] := by cases m with | nil => rfl | cons x l => simp at hm
    subst this
    exact ⟨fun h => by obtain ⟨ls, hl, _⟩ := wt_sl0 h (e := 129) (n := 13) (by kernel_rfl) (by kernel_rfl); simp at hl, fun h => by obtain ⟨ls, hl, _⟩ := wt_sl0 h (e := 132) (n := 3) (by kernel_rfl) (by kernel_rfl); simp at hl, fun h => by obtain ⟨ls, hl, _⟩ := wt_sl0 h (e := 43) (n := 10) (by kernel_rfl) (by kernel_rfl); simp at hl, fun h => by obtain ⟨ls, hl, _⟩ := wt_sl0 h (e := 135) (n := 11) (by kernel_rfl) (by kernel_rfl); simp at hl, fun h => by obtain ⟨ls, hl, _⟩ := wt_sl0 h (e := 27) (n := 6) (by kernel_rfl) (by kernel_rfl); simp at hl⟩
  | succ n ih =>
    intro m hm
    refine ⟨?_, ?_, ?_, ?_, ?_⟩
    · intro h
      obtain ⟨ls, rfl, hx⟩ := wt_sl0 h (e := 129) (n := 13) (by kernel_rfl) (by kernel_rfl)
      have H : ∀ x ∈ ls, ∃ y : GItem, x = cGItem y := fun x hm2 => de129_ (DS22_le ih (by have := size_mem (sz := 13) hm2; omega)) (hx x hm2)
      obtain ⟨ys, rfl⟩ := ex_map H
      exact ⟨ys, rfl⟩
    · intro h
      obtain ⟨ls, rfl, hx⟩ := wt_sl0 h (e := 132) (n := 3) (by kernel_rfl) (by kernel_rfl)
      have H : ∀ x ∈ ls, ∃ y : GSource, x = cGSource y := fun x hm2 => de132_ (DS22_le ih (by have := size_mem (sz := 3) hm2; omega)) (hx x hm2)
      obtain ⟨ys, rfl⟩ := ex_map H
      exact ⟨ys, rfl⟩
    · intro h
      obtain ⟨ls, rfl, hx⟩ := wt_sl0 h (e := 43) (n := 10) (by kernel_rfl) (by kernel_rfl)
      have H : ∀ x ∈ ls, ∃ y : GExpr, x = cGExpr y := fun x hm2 => de43_ (DS22_le ih (by have := size_mem (sz := 10) hm2; omega)) (hx x hm2)
      obtain ⟨ys, rfl⟩ := ex_map H
      exact ⟨ys, rfl⟩
    · intro h
      obtain ⟨ls, rfl, hx⟩ := wt_sl0 h (e := 135) (n := 11) (by kernel_rfl) (by kernel_rfl)
      have H : ∀ x ∈ ls, ∃ y : GSortKey, x = cGSortKey y := fun x hm2 => de135_ (DS22_le ih (by have := size_mem (sz := 11) hm2; omega)) (hx x hm2)
      obtain ⟨ys, rfl⟩ := ex_map H
      exact ⟨ys, rfl⟩
    · intro h
      obtain ⟨ls, rfl, hx⟩ := wt_sl0 h (e := 27) (n := 6) (by kernel_rfl) (by kernel_rfl)
      have H : ∀ x ∈ ls, ∃ y : GQuery, x = cGQuery y := fun x hm2 => de27_ (DS22_le ih (by have := size_mem (sz := 6) hm2; omega)) (hx x hm2)
      obtain ⟨ys, rfl⟩ := ex_map H
      exact ⟨ys, rfl⟩
theorem de22 {l : List D} (h : WtC Try.prog 22 l) : ∃ x : (List GItem), l = (cSl 13 cGItem) x := (DS22_all _ l (Nat.le_refl _)).1 h
theorem de23 {l : List D} (h : WtC Try.prog 23 l) : ∃ x : (List GSource), l = (cSl 3 cGSource) x := (DS22_all _ l (Nat.le_refl _)).2.1 h
theorem de24 {l : List D} (h : WtC Try.prog 24 l) : ∃ x : (List GExpr), l = (cSl 10 cGExpr) x := (DS22_all _ l (Nat.le_refl _)).2.2.1 h
theorem de25 {l : List D} (h : WtC Try.prog 25 l) : ∃ x : (List GSortKey), l = (cSl 11 cGSortKey) x := (DS22_all _ l (Nat.le_refl _)).2.2.2.1 h
theorem de41 {l : List D} (h : WtC Try.prog 41 l) : ∃ x : (List GQuery), l = (cSl 6 cGQuery) x := (DS22_all _ l (Nat.le_refl _)).2.2.2.2 h
theorem de43 {l : List D} (h : WtC Try.prog 43 l) : ∃ x : GExpr, l = cGExpr x := de43_ (DS22_all _) h
theorem de135 {l : List D} (h : WtC Try.prog 135 l) : ∃ x : GSortKey, l = cGSortKey x := de135_ (DS22_all _) h
theorem de132 {l : List D} (h : WtC Try.prog 132 l) : ∃ x : GSource, l = cGSource x := de132_ (DS22_all _) h
theorem de129 {l : List D} (h : WtC Try.prog 129 l) : ∃ x : GItem, l = cGItem x := de129_ (DS22_all _) h
theorem de27 {l : List D} (h : WtC Try.prog 27 l) : ∃ x : GQuery, l = cGQuery x := de27_ (DS22_all _) h
theorem OKs_iQuery_exprs_L3 (p0 : GQuery) : (∀ (x3_8 : (List GExpr)) (x46 : Int) (r : (List GExpr)), iQuery_exprs_L3 p0 x3_8 x46 = some r → avc Try.prog aciQuery_exprs_L3 (qiQuery_exprs_6 r) (stiQuery_exprs_L3 p0 x3_8 x46)) := by
  refine iQuery_exprs_L3.partial_correctness p0 (fun x3_8 x46 r => avc Try.prog aciQuery_exprs_L3 (qiQuery_exprs_6 r) (stiQuery_exprs_L3 p0 x3_8 x46)) ?_
  · intro F_iQuery_exprs_L3 OK_iQuery_exprs_L3 x3_8 x46 r h
    delta aciQuery_exprs_L3
    refine loop_unroll ?_
    refine seq_in ?_
    refine ops_in ?_
    refine sts_ok 1 (s' := ⟨(47, (.d (.b (decide (x46 < (p0.order.length : Int)))))) :: (stiQuery_exprs_L3 p0 x3_8 x46).env, (stiQuery_exprs_L3 p0 x3_8 x46).bx⟩) (by kernel_rfl) ?_
    refine nil_in ?_
    refine next_in ?_
    refine seq_in ?_
    refine cond_step h (by kernel_rfl) ?_ ?_
    · clear h; intro h
      refine skip_in ?_
      refine next_in ?_
      refine seq_in ?_
      refine block_in ?_
      refine seq_in ?_
      refine ops_in ?_
      refine v_step (m := idx p0.order x46) (v' := fun y => (.rp [(.i .i64 y.expr.kind), (.i .i64 y.expr.op), (.b y.expr.not_), (.i .i64 y.expr.value.kind), (.i .i64 y.expr.value.num), (.s (bs y.expr.value.text)), (.s (bs y.expr.qual)), (.s (bs y.expr.name)), (.sl 10 (y.expr.kids.map cGExpr)), (.sl 6 (y.expr.sub.map cGQuery)), (.b y.desc)])) h rfl rfl (fun y hy => vop_ia (l := p0.order) (f := cGSortKey) (g := oGSortKey) (k := .i64) hy cGSortKey_eq (by kernel_rfl) (by kernel_rfl) (by kernel_rfl)) ?_
      clear h; intro y9 h
      refine sts_ok 3 (s' := ⟨(9, (.ptr 9 0)) :: (49, (vGSortKey y9)) :: (48, (.rp [(.i .i64 y9.expr.kind), (.i .i64 y9.expr.op), (.b y9.expr.not_), (.i .i64 y9.expr.value.kind), (.i .i64 y9.expr.value.num), (.s (bs y9.expr.value.text)), (.s (bs y9.expr.qual)), (.s (bs y9.expr.name)), (.sl 10 (y9.expr.kids.map cGExpr)), (.sl 6 (y9.expr.sub.map cGQuery)), (.b y9.desc)])) :: (47, (.d (.b (decide (x46 < (p0.order.length : Int)))))) :: (stiQuery_exprs_L3 p0 x3_8 x46).env, [(9, [(.d (.i .i64 y9.expr.kind)), (.d (.i .i64 y9.expr.op)), (.d (.b y9.expr.not_)), (.d (.i .i64 y9.expr.value.kind)), (.d (.i .i64 y9.expr.value.num)), (.d (.s (bs y9.expr.value.text))), (.d (.s (bs y9.expr.qual))), (.d (.s (bs y9.expr.name))), (.d (.sl 10 (y9.expr.kids.map cGExpr))), (.d (.sl 6 (y9.expr.sub.map cGQuery))), (.d (.b y9.desc))])]⟩) (by kernel_rfl) ?_
      refine nil_in ?_
      refine next_in ?_
      refine ops_in ?_
      refine sts_ok 3 (s' := ⟨(52, (vGExpr y9.expr)) :: (51, (.ptr 9 0)) :: (50, (.osl 3 49 10 (x3_8.map cGExpr))) :: (9, (.ptr 9 0)) :: (49, (vGSortKey y9)) :: (48, (.rp [(.i .i64 y9.expr.kind), (.i .i64 y9.expr.op), (.b y9.expr.not_), (.i .i64 y9.expr.value.kind), (.i .i64 y9.expr.value.num), (.s (bs y9.expr.value.text)), (.s (bs y9.expr.qual)), (.s (bs y9.expr.name)), (.sl 10 (y9.expr.kids.map cGExpr)), (.sl 6 (y9.expr.sub.map cGQuery)), (.b y9.desc)])) :: (47, (.d (.b (decide (x46 < (p0.order.length : Int)))))) :: (stiQuery_exprs_L3 p0 x3_8 x46).env, [(9, [(.d (.i .i64 y9.expr.kind)), (.d (.i .i64 y9.expr.op)), (.d (.b y9.expr.not_)), (.d (.i .i64 y9.expr.value.kind)), (.d (.i .i64 y9.expr.value.num)), (.d (.s (bs y9.expr.value.text))), (.d (.s (bs y9.expr.qual))), (.d (.s (bs y9.expr.name))), (.d (.sl 10 (y9.expr.kids.map cGExpr))), (.d (.sl 6 (y9.expr.sub.map cGQuery))), (.d (.b y9.desc))])]⟩) (by kernel_rfl) ?_
      refine bsl_step (l := ([y9.expr] : List GExpr)) (f := cGExpr) (g := oGExpr) (by kernel_rfl) cGExpr_eq (by kernel_rfl) ?_
      refine app_step (t := 3) (l := x3_8) (m := ([y9.expr] : List GExpr)) (f := cGExpr) (S' := fun y => ⟨[(54, (.osl 54 49 10 (y.map cGExpr))), (53, (.osl 53 49 10 (([y9.expr] : List GExpr).map cGExpr))), (52, (vGExpr y9.expr)), (51, (.ptr 9 0)), (50, (.d (.sl 10 (x3_8.map cGExpr)))), (9, (.ptr 9 0)), (49, (vGSortKey y9)), (48, (.rp [(.i .i64 y9.expr.kind), (.i .i64 y9.expr.op), (.b y9.expr.not_), (.i .i64 y9.expr.value.kind), (.i .i64 y9.expr.value.num), (.s (bs y9.expr.value.text)), (.s (bs y9.expr.qual)), (.s (bs y9.expr.name)), (.sl 10 (y9.expr.kids.map cGExpr)), (.sl 6 (y9.expr.sub.map cGQuery)), (.b y9.desc)])), (47, (.d (.b (decide (x46 < (p0.order.length : Int)))))), (3, (.d (.sl 10 (x3_8.map cGExpr)))), (44, (.d (.sl 11 (p0.order.map cGSortKey)))), (45, (.d (.i .i64 (p0.order.length : Int)))), (46, (.d (.i .i64 x46)))], [(9, [(.d (.i .i64 y9.expr.kind)), (.d (.i .i64 y9.expr.op)), (.d (.b y9.expr.not_)), (.d (.i .i64 y9.expr.value.kind)), (.d (.i .i64 y9.expr.value.num)), (.d (.s (bs y9.expr.value.text))), (.d (.s (bs y9.expr.qual))), (.d (.s (bs y9.expr.name))), (.d (.sl 10 (y9.expr.kids.map cGExpr))), (.d (.sl 6 (y9.expr.sub.map cGQuery))), (.d (.b y9.desc))])]⟩) h (by kernel_rfl) (by kernel_rfl) (by kernel_rfl) (by kernel_rfl) (fun y => by kernel_rfl) ?_
      clear h; intro y10 h
      refine sts_ok 1 (s' := ⟨[(3, (.osl 3 49 10 (y10.map cGExpr))), (54, (.d (.sl 10 (y10.map cGExpr)))), (53, (.osl 53 49 10 (([y9.expr] : List GExpr).map cGExpr))), (52, (vGExpr y9.expr)), (51, (.ptr 9 0)), (50, (.d (.sl 10 (x3_8.map cGExpr)))), (9, (.ptr 9 0)), (49, (vGSortKey y9)), (48, (.rp [(.i .i64 y9.expr.kind), (.i .i64 y9.expr.op), (.b y9.expr.not_), (.i .i64 y9.expr.value.kind), (.i .i64 y9.expr.value.num), (.s (bs y9.expr.value.text)), (.s (bs y9.expr.qual)), (.s (bs y9.expr.name)), (.sl 10 (y9.expr.kids.map cGExpr)), (.sl 6 (y9.expr.sub.map cGQuery)), (.b y9.desc)])), (47, (.d (.b (decide (x46 < (p0.order.length : Int)))))), (3, (.d (.sl 10 (x3_8.map cGExpr)))), (44, (.d (.sl 11 (p0.order.map cGSortKey)))), (45, (.d (.i .i64 (p0.order.length : Int)))), (46, (.d (.i .i64 x46)))], [(9, [(.d (.i .i64 y9.expr.kind)), (.d (.i .i64 y9.expr.op)), (.d (.b y9.expr.not_)), (.d (.i .i64 y9.expr.value.kind)), (.d (.i .i64 y9.expr.value.num)), (.d (.s (bs y9.expr.value.text))), (.d (.s (bs y9.expr.qual))), (.d (.s (bs y9.expr.name))), (.d (.sl 10 (y9.expr.kids.map cGExpr))), (.d (.sl 6 (y9.expr.sub.map cGQuery))), (.d (.b y9.desc))])]⟩) (by kernel_rfl) ?_
      refine nil_in ?_
      refine blockK_norm ?_
      refine next_in ?_
      refine ops_in ?_
      refine sts_ok 2 (s' := ⟨[(46, (.d (.i .i64 (IntKind.wrap .i64 (x46 + 1))))), (55, (.d (.i .i64 (IntKind.wrap .i64 (x46 + 1))))), (3, (.osl 3 49 10 (y10.map cGExpr))), (54, (.d (.sl 10 (y10.map cGExpr)))), (53, (.osl 53 49 10 (([y9.expr] : List GExpr).map cGExpr))), (52, (vGExpr y9.expr)), (51, (.ptr 9 0)), (50, (.d (.sl 10 (x3_8.map cGExpr)))), (9, (.ptr 9 0)), (49, (vGSortKey y9)), (48, (.rp [(.i .i64 y9.expr.kind), (.i .i64 y9.expr.op), (.b y9.expr.not_), (.i .i64 y9.expr.value.kind), (.i .i64 y9.expr.value.num), (.s (bs y9.expr.value.text)), (.s (bs y9.expr.qual)), (.s (bs y9.expr.name)), (.sl 10 (y9.expr.kids.map cGExpr)), (.sl 6 (y9.expr.sub.map cGQuery)), (.b y9.desc)])), (47, (.d (.b (decide (x46 < (p0.order.length : Int)))))), (3, (.d (.sl 10 (x3_8.map cGExpr)))), (44, (.d (.sl 11 (p0.order.map cGSortKey)))), (45, (.d (.i .i64 (p0.order.length : Int)))), (46, (.d (.i .i64 x46)))], [(9, [(.d (.i .i64 y9.expr.kind)), (.d (.i .i64 y9.expr.op)), (.d (.b y9.expr.not_)), (.d (.i .i64 y9.expr.value.kind)), (.d (.i .i64 y9.expr.value.num)), (.d (.s (bs y9.expr.value.text))), (.d (.s (bs y9.expr.qual))), (.d (.s (bs y9.expr.name))), (.d (.sl 10 (y9.expr.kids.map cGExpr))), (.d (.sl 6 (y9.expr.sub.map cGQuery))), (.d (.b y9.desc))])]⟩) (by kernel_rfl) ?_
      refine nil_in ?_
      exact loop_back (s' := stiQuery_exprs_L3 p0 y10 (IntKind.wrap .i64 (x46 + 1))) (wk_ren [(3, .old 3)] (by kernel_rfl) (er_cons (vr_old (t := 3) (by kernel_rfl) (by kernel_rfl)) (er_cons (vr_same (by kernel_rfl) (by kernel_rfl)) (er_cons (vr_same (by kernel_rfl) (by kernel_rfl)) (er_cons (vr_same (by kernel_rfl) (by kernel_rfl)) (er_nil))))) (br_nil)) (OK_iQuery_exprs_L3 y10 (IntKind.wrap .i64 (x46 + 1)) _ h)
    · clear h; intro h
      refine exit_in ?_
      refine thenK_exit ?_
      refine thenK_exit ?_
      refine blockK_here ?_
      refine next_in ?_
      refine seq_in ?_
      refine ops_in ?_
      refine sts_ok 2 (s' := ⟨[(2, (.osl 2 49 10 (x3_8.map cGExpr))), (56, (.d (.sl 10 (x3_8.map cGExpr)))), (47, (.d (.b (decide (x46 < (p0.order.length : Int)))))), (3, (.d (.sl 10 (x3_8.map cGExpr)))), (44, (.d (.sl 11 (p0.order.map cGSortKey)))), (45, (.d (.i .i64 (p0.order.length : Int)))), (46, (.d (.i .i64 x46)))], []⟩) (by kernel_rfl) ?_
      refine nil_in ?_
      refine next_in ?_
      refine ret_wk (s' := ⟨[(2, (.osl 2000000 49 10 (x3_8.map cGExpr)))], []⟩) (wk_ren [(2000000, .old 2)] (by kernel_rfl) (er_cons (vr_old (t := 2) (by kernel_rfl) (by kernel_rfl)) (er_nil)) (br_nil)) ?_
      have h := Option.some.inj h; subst h
      exact ret1_step (v := (.osl 2000000 49 10 (x3_8.map cGExpr))) (by kernel_rfl) (by kernel_rfl) ⟨by kernel_rfl, trivial⟩
theorem OK_iQuery_exprs_L3 (p0 : GQuery) (x3_8 : (List GExpr)) (x46 : Int) (r : (List GExpr)) (h : iQuery_exprs_L3 p0 x3_8 x46 = some r) : avc Try.prog aciQuery_exprs_L3 (qiQuery_exprs_6 r) (stiQuery_exprs_L3 p0 x3_8 x46) := (OKs_iQuery_exprs_L3 p0) x3_8 x46 r h
theorem OKs_iQuery_exprs_L2 (p0 : GQuery) : (∀ (x3_4 : (List GExpr)) (x30 : Int) (r : (List GExpr)), iQuery_exprs_L2 p0 x3_4 x30 = some r → avc Try.prog aciQuery_exprs_L2 (qiQuery_exprs_4 r) (stiQuery_exprs_L2 p0 x3_4 x30)) := by
  refine iQuery_exprs_L2.partial_correctness p0 (fun x3_4 x30 r => avc Try.prog aciQuery_exprs_L2 (qiQuery_exprs_4 r) (stiQuery_exprs_L2 p0 x3_4 x30)) ?_
  · intro F_iQuery_exprs_L2 OK_iQuery_exprs_L2 x3_4 x30 r h
    delta aciQuery_exprs_L2
    refine loop_unroll ?_
    refine seq_in ?_
    refine ops_in ?_
    refine sts_ok 1 (s' := ⟨(31, (.d (.b (decide (x30 < (p0.from_.length : Int)))))) :: (stiQuery_exprs_L2 p0 x3_4 x30).env, (stiQuery_exprs_L2 p0 x3_4 x30).bx⟩) (by kernel_rfl) ?_
    refine nil_in ?_
    refine next_in ?_
    refine seq_in ?_
    refine cond_step h (by kernel_rfl) ?_ ?_
    · clear h; intro h
      refine skip_in ?_
      refine next_in ?_
      refine seq_in ?_
      refine block_in ?_
      refine seq_in ?_
      refine ops_in ?_
      refine v_step (m := idx p0.from_ x30) (v' := fun y => (.rp [(.s (bs y.table)), (.s (bs y.as_)), (.sl 10 (y.on_.map cGExpr))])) h rfl rfl (fun y hy => vop_ia (l := p0.from_) (f := cGSource) (g := oGSource) (k := .i64) hy cGSource_eq (by kernel_rfl) (by kernel_rfl) (by kernel_rfl)) ?_
      clear h; intro y5 h
      refine sts_ok 3 (s' := ⟨(7, (.ptr 7 0)) :: (33, (vGSource y5)) :: (32, (.rp [(.s (bs y5.table)), (.s (bs y5.as_)), (.sl 10 (y5.on_.map cGExpr))])) :: (31, (.d (.b (decide (x30 < (p0.from_.length : Int)))))) :: (stiQuery_exprs_L2 p0 x3_4 x30).env, [(7, [(.d (.s (bs y5.table))), (.d (.s (bs y5.as_))), (.d (.sl 10 (y5.on_.map cGExpr)))]), (1, [(.d (.b p0.distinct)), (.d (.sl 13 (p0.items.map cGItem))), (.d (.sl 3 (p0.from_.map cGSource))), (.d (.sl 10 (p0.where_.map cGExpr))), (.d (.sl 11 (p0.order.map cGSortKey))), (.d (.i .i64 p0.limit))])]⟩) (by kernel_rfl) ?_
      refine nil_in ?_
      refine next_in ?_
      refine ops_in ?_
      refine sts_ok 3 (s' := ⟨(36, (.d (.sl 10 (y5.on_.map cGExpr)))) :: (35, (.ptr 7 2)) :: (34, (.osl 3 49 10 (x3_4.map cGExpr))) :: (7, (.ptr 7 0)) :: (33, (vGSource y5)) :: (32, (.rp [(.s (bs y5.table)), (.s (bs y5.as_)), (.sl 10 (y5.on_.map cGExpr))])) :: (31, (.d (.b (decide (x30 < (p0.from_.length : Int)))))) :: (stiQuery_exprs_L2 p0 x3_4 x30).env, [(7, [(.d (.s (bs y5.table))), (.d (.s (bs y5.as_))), (.d (.sl 10 (y5.on_.map cGExpr)))]), (1, [(.d (.b p0.distinct)), (.d (.sl 13 (p0.items.map cGItem))), (.d (.sl 3 (p0.from_.map cGSource))), (.d (.sl 10 (p0.where_.map cGExpr))), (.d (.sl 11 (p0.order.map cGSortKey))), (.d (.i .i64 p0.limit))])]⟩) (by kernel_rfl) ?_
      refine app_step (t := 3) (l := x3_4) (m := y5.on_) (f := cGExpr) (S' := fun y => ⟨[(37, (.osl 37 49 10 (y.map cGExpr))), (36, (.d (.sl 10 (y5.on_.map cGExpr)))), (35, (.ptr 7 2)), (34, (.d (.sl 10 (x3_4.map cGExpr)))), (7, (.ptr 7 0)), (33, (vGSource y5)), (32, (.rp [(.s (bs y5.table)), (.s (bs y5.as_)), (.sl 10 (y5.on_.map cGExpr))])), (31, (.d (.b (decide (x30 < (p0.from_.length : Int)))))), (1, (.ptr 1 0)), (3, (.d (.sl 10 (x3_4.map cGExpr)))), (28, (.d (.sl 3 (p0.from_.map cGSource)))), (29, (.d (.i .i64 (p0.from_.length : Int)))), (30, (.d (.i .i64 x30)))], [(7, [(.d (.s (bs y5.table))), (.d (.s (bs y5.as_))), (.d (.sl 10 (y5.on_.map cGExpr)))]), (1, [(.d (.b p0.distinct)), (.d (.sl 13 (p0.items.map cGItem))), (.d (.sl 3 (p0.from_.map cGSource))), (.d (.sl 10 (p0.where_.map cGExpr))), (.d (.sl 11 (p0.order.map cGSortKey))), (.d (.i .i64 p0.limit))])]⟩) h (by kernel_rfl) (by kernel_rfl) (by kernel_rfl) (by kernel_rfl) (fun y => by kernel_rfl) ?_
      clear h; intro y6 h
      refine sts_ok 1 (s' := ⟨[(3, (.osl 3 49 10 (y6.map cGExpr))), (37, (.d (.sl 10 (y6.map cGExpr)))), (36, (.d (.sl 10 (y5.on_.map cGExpr)))), (35, (.ptr 7 2)), (34, (.d (.sl 10 (x3_4.map cGExpr)))), (7, (.ptr 7 0)), (33, (vGSource y5)), (32, (.rp [(.s (bs y5.table)), (.s (bs y5.as_)), (.sl 10 (y5.on_.map cGExpr))])), (31, (.d (.b (decide (x30 < (p0.from_.length : Int)))))), (1, (.ptr 1 0)), (3, (.d (.sl 10 (x3_4.map cGExpr)))), (28, (.d (.sl 3 (p0.from_.map cGSource)))), (29, (.d (.i .i64 (p0.from_.length : Int)))), (30, (.d (.i .i64 x30)))], [(7, [(.d (.s (bs y5.table))), (.d (.s (bs y5.as_))), (.d (.sl 10 (y5.on_.map cGExpr)))]), (1, [(.d (.b p0.distinct)), (.d (.sl 13 (p0.items.map cGItem))), (.d (.sl 3 (p0.from_.map cGSource))), (.d (.sl 10 (p0.where_.map cGExpr))), (.d (.sl 11 (p0.order.map cGSortKey))), (.d (.i .i64 p0.limit))])]⟩) (by kernel_rfl) ?_
      refine nil_in ?_
      refine blockK_norm ?_
      refine next_in ?_
      refine ops_in ?_
      refine sts_ok 2 (s' := ⟨[(30, (.d (.i .i64 (IntKind.wrap .i64 (x30 + 1))))), (38, (.d (.i .i64 (IntKind.wrap .i64 (x30 + 1))))), (3, (.osl 3 49 10 (y6.map cGExpr))), (37, (.d (.sl 10 (y6.map cGExpr)))), (36, (.d (.sl 10 (y5.on_.map cGExpr)))), (35, (.ptr 7 2)), (34, (.d (.sl 10 (x3_4.map cGExpr)))), (7, (.ptr 7 0)), (33, (vGSource y5)), (32, (.rp [(.s (bs y5.table)), (.s (bs y5.as_)), (.sl 10 (y5.on_.map cGExpr))])), (31, (.d (.b (decide (x30 < (p0.from_.length : Int)))))), (1, (.ptr 1 0)), (3, (.d (.sl 10 (x3_4.map cGExpr)))), (28, (.d (.sl 3 (p0.from_.map cGSource)))), (29, (.d (.i .i64 (p0.from_.length : Int)))), (30, (.d (.i .i64 x30)))], [(7, [(.d (.s (bs y5.table))), (.d (.s (bs y5.as_))), (.d (.sl 10 (y5.on_.map cGExpr)))]), (1, [(.d (.b p0.distinct)), (.d (.sl 13 (p0.items.map cGItem))), (.d (.sl 3 (p0.from_.map cGSource))), (.d (.sl 10 (p0.where_.map cGExpr))), (.d (.sl 11 (p0.order.map cGSortKey))), (.d (.i .i64 p0.limit))])]⟩) (by kernel_rfl) ?_
      refine nil_in ?_
      exact loop_back (s' := stiQuery_exprs_L2 p0 y6 (IntKind.wrap .i64 (x30 + 1))) (wk_ren [(3, .old 3)] (by kernel_rfl) (er_cons (vr_same (by kernel_rfl) (by kernel_rfl)) (er_cons (vr_old (t := 3) (by kernel_rfl) (by kernel_rfl)) (er_cons (vr_same (by kernel_rfl) (by kernel_rfl)) (er_cons (vr_same (by kernel_rfl) (by kernel_rfl)) (er_cons (vr_same (by kernel_rfl) (by kernel_rfl)) (er_nil)))))) (br_same (by kernel_rfl) (by kernel_rfl) (br_nil))) (OK_iQuery_exprs_L2 y6 (IntKind.wrap .i64 (x30 + 1)) _ h)
    · clear h; intro h
      refine exit_in ?_
      refine thenK_exit ?_
      refine thenK_exit ?_
      refine blockK_here ?_
      refine next_in ?_
      refine seq_in ?_
      refine ops_in ?_
      refine sts_ok 3 (s' := ⟨(41, (.d (.sl 10 (p0.where_.map cGExpr)))) :: (40, (.ptr 1 3)) :: (39, (.osl 3 49 10 (x3_4.map cGExpr))) :: (31, (.d (.b (decide (x30 < (p0.from_.length : Int)))))) :: (stiQuery_exprs_L2 p0 x3_4 x30).env, (stiQuery_exprs_L2 p0 x3_4 x30).bx⟩) (by kernel_rfl) ?_
      refine app_step (t := 3) (l := x3_4) (m := p0.where_) (f := cGExpr) (S' := fun y => ⟨[(42, (.osl 42 49 10 (y.map cGExpr))), (41, (.d (.sl 10 (p0.where_.map cGExpr)))), (40, (.ptr 1 3)), (39, (.d (.sl 10 (x3_4.map cGExpr)))), (31, (.d (.b (decide (x30 < (p0.from_.length : Int)))))), (1, (.ptr 1 0)), (3, (.d (.sl 10 (x3_4.map cGExpr)))), (28, (.d (.sl 3 (p0.from_.map cGSource)))), (29, (.d (.i .i64 (p0.from_.length : Int)))), (30, (.d (.i .i64 x30)))], [(1, [(.d (.b p0.distinct)), (.d (.sl 13 (p0.items.map cGItem))), (.d (.sl 3 (p0.from_.map cGSource))), (.d (.sl 10 (p0.where_.map cGExpr))), (.d (.sl 11 (p0.order.map cGSortKey))), (.d (.i .i64 p0.limit))])]⟩) h (by kernel_rfl) (by kernel_rfl) (by kernel_rfl) (by kernel_rfl) (fun y => by kernel_rfl) ?_
      clear h; intro y7 h
      refine sts_ok 1 (s' := ⟨[(3, (.osl 3 49 10 (y7.map cGExpr))), (42, (.d (.sl 10 (y7.map cGExpr)))), (41, (.d (.sl 10 (p0.where_.map cGExpr)))), (40, (.ptr 1 3)), (39, (.d (.sl 10 (x3_4.map cGExpr)))), (31, (.d (.b (decide (x30 < (p0.from_.length : Int)))))), (1, (.ptr 1 0)), (3, (.d (.sl 10 (x3_4.map cGExpr)))), (28, (.d (.sl 3 (p0.from_.map cGSource)))), (29, (.d (.i .i64 (p0.from_.length : Int)))), (30, (.d (.i .i64 x30)))], [(1, [(.d (.b p0.distinct)), (.d (.sl 13 (p0.items.map cGItem))), (.d (.sl 3 (p0.from_.map cGSource))), (.d (.sl 10 (p0.where_.map cGExpr))), (.d (.sl 11 (p0.order.map cGSortKey))), (.d (.i .i64 p0.limit))])]⟩) (by kernel_rfl) ?_
      refine nil_in ?_
      refine next_in ?_
      refine seq_in ?_
      refine seq_in ?_
      refine ops_in ?_
      refine sts_ok 2 (s' := ⟨[(44, (.d (.sl 11 (p0.order.map cGSortKey)))), (43, (.ptr 1 4)), (3, (.osl 3 49 10 (y7.map cGExpr))), (42, (.d (.sl 10 (y7.map cGExpr)))), (41, (.d (.sl 10 (p0.where_.map cGExpr)))), (40, (.ptr 1 3)), (39, (.d (.sl 10 (x3_4.map cGExpr)))), (31, (.d (.b (decide (x30 < (p0.from_.length : Int)))))), (1, (.ptr 1 0)), (3, (.d (.sl 10 (x3_4.map cGExpr)))), (28, (.d (.sl 3 (p0.from_.map cGSource)))), (29, (.d (.i .i64 (p0.from_.length : Int)))), (30, (.d (.i .i64 x30)))], [(1, [(.d (.b p0.distinct)), (.d (.sl 13 (p0.items.map cGItem))), (.d (.sl 3 (p0.from_.map cGSource))), (.d (.sl 10 (p0.where_.map cGExpr))), (.d (.sl 11 (p0.order.map cGSortKey))), (.d (.i .i64 p0.limit))])]⟩) (by kernel_rfl) ?_
      refine p_step (v' := (.d (.i .i64 (p0.order.length : Int)))) rfl rfl (vop_len (sz := 11) (l := p0.order) (f := cGSortKey) (by kernel_rfl) (by kernel_rfl)) ?_
      refine sts_ok 1 (s' := ⟨[(46, (.d (.i .i64 0))), (45, (.d (.i .i64 (p0.order.length : Int)))), (44, (.d (.sl 11 (p0.order.map cGSortKey)))), (43, (.ptr 1 4)), (3, (.osl 3 49 10 (y7.map cGExpr))), (42, (.d (.sl 10 (y7.map cGExpr)))), (41, (.d (.sl 10 (p0.where_.map cGExpr)))), (40, (.ptr 1 3)), (39, (.d (.sl 10 (x3_4.map cGExpr)))), (31, (.d (.b (decide (x30 < (p0.from_.length : Int)))))), (1, (.ptr 1 0)), (3, (.d (.sl 10 (x3_4.map cGExpr)))), (28, (.d (.sl 3 (p0.from_.map cGSource)))), (29, (.d (.i .i64 (p0.from_.length : Int)))), (30, (.d (.i .i64 x30)))], [(1, [(.d (.b p0.distinct)), (.d (.sl 13 (p0.items.map cGItem))), (.d (.sl 3 (p0.from_.map cGSource))), (.d (.sl 10 (p0.where_.map cGExpr))), (.d (.sl 11 (p0.order.map cGSortKey))), (.d (.i .i64 p0.limit))])]⟩) (by kernel_rfl) ?_
      refine nil_in ?_
      refine next_in ?_
      refine block_in ?_
      exact loop_go (s' := stiQuery_exprs_L3 p0 y7 0) (wk_ren [(3, .old 3)] (by kernel_rfl) (er_cons (vr_old (t := 3) (by kernel_rfl) (by kernel_rfl)) (er_cons (vr_same (by kernel_rfl) (by kernel_rfl)) (er_cons (vr_same (by kernel_rfl) (by kernel_rfl)) (er_cons (vr_same (by kernel_rfl) (by kernel_rfl)) (er_nil))))) (br_nil)) (OK_iQuery_exprs_L3 p0 y7 0 _ h)
theorem OK_iQuery_exprs_L2 (p0 : GQuery) (x3_4 : (List GExpr)) (x30 : Int) (r : (List GExpr)) (h : iQuery_exprs_L2 p0 x3_4 x30 = some r) : avc Try.prog aciQuery_exprs_L2 (qiQuery_exprs_4 r) (stiQuery_exprs_L2 p0 x3_4 x30) := (OKs_iQuery_exprs_L2 p0) x3_4 x30 r h
theorem OKs_iQuery_exprs_J1 (p0 : GQuery) : (∀ (x14 : Int) (x3_3 : (List GExpr)) (r : (List GExpr)), iQuery_exprs_J1 p0 x14 x3_3 = some r → avc Try.prog aciQuery_exprs_J1 (qiQuery_exprs_2 r) (stiQuery_exprs_J1 p0 x14 x3_3)) ∧ (∀ (x3 : (List GExpr)) (x14 : Int) (r : (List GExpr)), iQuery_exprs_L0 p0 x3 x14 = some r → avc Try.prog aciQuery_exprs_L0 (qiQuery_exprs_1 r) (stiQuery_exprs_L0 p0 x3 x14)) := by
  refine iQuery_exprs_J1.mutual_partial_correctness p0 (fun x14 x3_3 r => avc Try.prog aciQuery_exprs_J1 (qiQuery_exprs_2 r) (stiQuery_exprs_J1 p0 x14 x3_3)) (fun x3 x14 r => avc Try.prog aciQuery_exprs_L0 (qiQuery_exprs_1 r) (stiQuery_exprs_L0 p0 x3 x14)) ?_ ?_
  · intro F_iQuery_exprs_L0 OK_iQuery_exprs_L0 x14 x3_3 r h
    delta aciQuery_exprs_J1
    refine ops_in ?_
    refine sts_ok 2 (s' := ⟨(14, (.d (.i .i64 (IntKind.wrap .i64 (x14 + 1))))) :: (26, (.d (.i .i64 (IntKind.wrap .i64 (x14 + 1))))) :: (stiQuery_exprs_J1 p0 x14 x3_3).env, (stiQuery_exprs_J1 p0 x14 x3_3).bx⟩) (by kernel_rfl) ?_
    refine nil_in ?_
    exact loop_back (s' := stiQuery_exprs_L0 p0 x3_3 (IntKind.wrap .i64 (x14 + 1))) (wk_ren [(3, .old 3)] (by kernel_rfl) (er_cons (vr_same (by kernel_rfl) (by kernel_rfl)) (er_cons (vr_old (t := 3) (by kernel_rfl) (by kernel_rfl)) (er_cons (vr_same (by kernel_rfl) (by kernel_rfl)) (er_cons (vr_same (by kernel_rfl) (by kernel_rfl)) (er_cons (vr_same (by kernel_rfl) (by kernel_rfl)) (er_nil)))))) (br_same (by kernel_rfl) (by kernel_rfl) (br_nil))) (OK_iQuery_exprs_L0 x3_3 (IntKind.wrap .i64 (x14 + 1)) _ h)
  · intro F_iQuery_exprs_J1 OK_iQuery_exprs_J1 x3 x14 r h
    delta aciQuery_exprs_L0
    refine loop_unroll ?_
    refine seq_in ?_
    refine ops_in ?_
    refine sts_ok 1 (s' := ⟨(15, (.d (.b (decide (x14 < (p0.items.length : Int)))))) :: (stiQuery_exprs_L0 p0 x3 x14).env, (stiQuery_exprs_L0 p0 x3 x14).bx⟩) (by kernel_rfl) ?_
    refine nil_in ?_
    refine next_in ?_
    refine seq_in ?_
    refine cond_step h (by kernel_rfl) ?_ ?_
    · clear h; intro h
      refine skip_in ?_
      refine next_in ?_
      refine seq_in ?_
      refine block_in ?_
      refine seq_in ?_
      refine ops_in ?_
      refine v_step (m := idx p0.items x14) (v' := fun y => (.rp [(.b y.star), (.s (bs y.qual)), (.i .i64 y.expr.kind), (.i .i64 y.expr.op), (.b y.expr.not_), (.i .i64 y.expr.value.kind), (.i .i64 y.expr.value.num), (.s (bs y.expr.value.text)), (.s (bs y.expr.qual)), (.s (bs y.expr.name)), (.sl 10 (y.expr.kids.map cGExpr)), (.sl 6 (y.expr.sub.map cGQuery)), (.s (bs y.as_))])) h rfl rfl (fun y hy => vop_ia (l := p0.items) (f := cGItem) (g := oGItem) (k := .i64) hy cGItem_eq (by kernel_rfl) (by kernel_rfl) (by kernel_rfl)) ?_
      clear h; intro y1 h
      refine sts_ok 3 (s' := ⟨(5, (.ptr 5 0)) :: (17, (vGItem y1)) :: (16, (.rp [(.b y1.star), (.s (bs y1.qual)), (.i .i64 y1.expr.kind), (.i .i64 y1.expr.op), (.b y1.expr.not_), (.i .i64 y1.expr.value.kind), (.i .i64 y1.expr.value.num), (.s (bs y1.expr.value.text)), (.s (bs y1.expr.qual)), (.s (bs y1.expr.name)), (.sl 10 (y1.expr.kids.map cGExpr)), (.sl 6 (y1.expr.sub.map cGQuery)), (.s (bs y1.as_))])) :: (15, (.d (.b (decide (x14 < (p0.items.length : Int)))))) :: (stiQuery_exprs_L0 p0 x3 x14).env, [(5, [(.d (.b y1.star)), (.d (.s (bs y1.qual))), (.d (.i .i64 y1.expr.kind)), (.d (.i .i64 y1.expr.op)), (.d (.b y1.expr.not_)), (.d (.i .i64 y1.expr.value.kind)), (.d (.i .i64 y1.expr.value.num)), (.d (.s (bs y1.expr.value.text))), (.d (.s (bs y1.expr.qual))), (.d (.s (bs y1.expr.name))), (.d (.sl 10 (y1.expr.kids.map cGExpr))), (.d (.sl 6 (y1.expr.sub.map cGQuery))), (.d (.s (bs y1.as_)))]), (1, [(.d (.b p0.distinct)), (.d (.sl 13 (p0.items.map cGItem))), (.d (.sl 3 (p0.from_.map cGSource))), (.d (.sl 10 (p0.where_.map cGExpr))), (.d (.sl 11 (p0.order.map cGSortKey))), (.d (.i .i64 p0.limit))])]⟩) (by kernel_rfl) ?_
      refine nil_in ?_
      refine next_in ?_
      refine seq_in ?_
      refine ops_in ?_
      refine sts_ok 3 (s' := ⟨(20, (.d (.b (!y1.star)))) :: (19, (.d (.b y1.star))) :: (18, (.ptr 5 0)) :: (5, (.ptr 5 0)) :: (17, (vGItem y1)) :: (16, (.rp [(.b y1.star), (.s (bs y1.qual)), (.i .i64 y1.expr.kind), (.i .i64 y1.expr.op), (.b y1.expr.not_), (.i .i64 y1.expr.value.kind), (.i .i64 y1.expr.value.num), (.s (bs y1.expr.value.text)), (.s (bs y1.expr.qual)), (.s (bs y1.expr.name)), (.sl 10 (y1.expr.kids.map cGExpr)), (.sl 6 (y1.expr.sub.map cGQuery)), (.s (bs y1.as_))])) :: (15, (.d (.b (decide (x14 < (p0.items.length : Int)))))) :: (stiQuery_exprs_L0 p0 x3 x14).env, [(5, [(.d (.b y1.star)), (.d (.s (bs y1.qual))), (.d (.i .i64 y1.expr.kind)), (.d (.i .i64 y1.expr.op)), (.d (.b y1.expr.not_)), (.d (.i .i64 y1.expr.value.kind)), (.d (.i .i64 y1.expr.value.num)), (.d (.s (bs y1.expr.value.text))), (.d (.s (bs y1.expr.qual))), (.d (.s (bs y1.expr.name))), (.d (.sl 10 (y1.expr.kids.map cGExpr))), (.d (.sl 6 (y1.expr.sub.map cGQuery))), (.d (.s (bs y1.as_)))]), (1, [(.d (.b p0.distinct)), (.d (.sl 13 (p0.items.map cGItem))), (.d (.sl 3 (p0.from_.map cGSource))), (.d (.sl 10 (p0.where_.map cGExpr))), (.d (.sl 11 (p0.order.map cGSortKey))), (.d (.i .i64 p0.limit))])]⟩) (by kernel_rfl) ?_
      refine nil_in ?_
      refine next_in ?_
      refine cond_step h (by kernel_rfl) ?_ ?_
      · clear h; intro h
        refine ops_in ?_
        refine sts_ok 3 (s' := ⟨(23, (vGExpr y1.expr)) :: (22, (.ptr 5 2)) :: (21, (.osl 3 49 10 (x3.map cGExpr))) :: (20, (.d (.b (!y1.star)))) :: (19, (.d (.b y1.star))) :: (18, (.ptr 5 0)) :: (5, (.ptr 5 0)) :: (17, (vGItem y1)) :: (16, (.rp [(.b y1.star), (.s (bs y1.qual)), (.i .i64 y1.expr.kind), (.i .i64 y1.expr.op), (.b y1.expr.not_), (.i .i64 y1.expr.value.kind), (.i .i64 y1.expr.value.num), (.s (bs y1.expr.value.text)), (.s (bs y1.expr.qual)), (.s (bs y1.expr.name)), (.sl 10 (y1.expr.kids.map cGExpr)), (.sl 6 (y1.expr.sub.map cGQuery)), (.s (bs y1.as_))])) :: (15, (.d (.b (decide (x14 < (p0.items.length : Int)))))) :: (stiQuery_exprs_L0 p0 x3 x14).env, [(5, [(.d (.b y1.star)), (.d (.s (bs y1.qual))), (.d (.i .i64 y1.expr.kind)), (.d (.i .i64 y1.expr.op)), (.d (.b y1.expr.not_)), (.d (.i .i64 y1.expr.value.kind)), (.d (.i .i64 y1.expr.value.num)), (.d (.s (bs y1.expr.value.text))), (.d (.s (bs y1.expr.qual))), (.d (.s (bs y1.expr.name))), (.d (.sl 10 (y1.expr.kids.map cGExpr))), (.d (.sl 6 (y1.expr.sub.map cGQuery))), (.d (.s (bs y1.as_)))]), (1, [(.d (.b p0.distinct)), (.d (.sl 13 (p0.items.map cGItem))), (.d (.sl 3 (p0.from_.map cGSource))), (.d (.sl 10 (p0.where_.map cGExpr))), (.d (.sl 11 (p0.order.map cGSortKey))), (.d (.i .i64 p0.limit))])]⟩) (by kernel_rfl) ?_
        refine bsl_step (l := ([y1.expr] : List GExpr)) (f := cGExpr) (g := oGExpr) (by kernel_rfl) cGExpr_eq (by kernel_rfl) ?_
        refine app_step (t := 3) (l := x3) (m := ([y1.expr] : List GExpr)) (f := cGExpr) (S' := fun y => ⟨[(25, (.osl 25 49 10 (y.map cGExpr))), (24, (.osl 24 49 10 (([y1.expr] : List GExpr).map cGExpr))), (23, (vGExpr y1.expr)), (22, (.ptr 5 2)), (21, (.d (.sl 10 (x3.map cGExpr)))), (20, (.d (.b (!y1.star)))), (19, (.d (.b y1.star))), (18, (.ptr 5 0)), (5, (.ptr 5 0)), (17, (vGItem y1)), (16, (.rp [(.b y1.star), (.s (bs y1.qual)), (.i .i64 y1.expr.kind), (.i .i64 y1.expr.op), (.b y1.expr.not_), (.i .i64 y1.expr.value.kind), (.i .i64 y1.expr.value.num), (.s (bs y1.expr.value.text)), (.s (bs y1.expr.qual)), (.s (bs y1.expr.name)), (.sl 10 (y1.expr.kids.map cGExpr)), (.sl 6 (y1.expr.sub.map cGQuery)), (.s (bs y1.as_))])), (15, (.d (.b (decide (x14 < (p0.items.length : Int)))))), (1, (.ptr 1 0)), (3, (.d (.sl 10 (x3.map cGExpr)))), (12, (.d (.sl 13 (p0.items.map cGItem)))), (13, (.d (.i .i64 (p0.items.length : Int)))), (14, (.d (.i .i64 x14)))], [(5, [(.d (.b y1.star)), (.d (.s (bs y1.qual))), (.d (.i .i64 y1.expr.kind)), (.d (.i .i64 y1.expr.op)), (.d (.b y1.expr.not_)), (.d (.i .i64 y1.expr.value.kind)), (.d (.i .i64 y1.expr.value.num)), (.d (.s (bs y1.expr.value.text))), (.d (.s (bs y1.expr.qual))), (.d (.s (bs y1.expr.name))), (.d (.sl 10 (y1.expr.kids.map cGExpr))), (.d (.sl 6 (y1.expr.sub.map cGQuery))), (.d (.s (bs y1.as_)))]), (1, [(.d (.b p0.distinct)), (.d (.sl 13 (p0.items.map cGItem))), (.d (.sl 3 (p0.from_.map cGSource))), (.d (.sl 10 (p0.where_.map cGExpr))), (.d (.sl 11 (p0.order.map cGSortKey))), (.d (.i .i64 p0.limit))])]⟩) h (by kernel_rfl) (by kernel_rfl) (by kernel_rfl) (by kernel_rfl) (fun y => by kernel_rfl) ?_
        clear h; intro y2 h
        refine sts_ok 1 (s' := ⟨[(3, (.osl 3 49 10 (y2.map cGExpr))), (25, (.d (.sl 10 (y2.map cGExpr)))), (24, (.osl 24 49 10 (([y1.expr] : List GExpr).map cGExpr))), (23, (vGExpr y1.expr)), (22, (.ptr 5 2)), (21, (.d (.sl 10 (x3.map cGExpr)))), (20, (.d (.b (!y1.star)))), (19, (.d (.b y1.star))), (18, (.ptr 5 0)), (5, (.ptr 5 0)), (17, (vGItem y1)), (16, (.rp [(.b y1.star), (.s (bs y1.qual)), (.i .i64 y1.expr.kind), (.i .i64 y1.expr.op), (.b y1.expr.not_), (.i .i64 y1.expr.value.kind), (.i .i64 y1.expr.value.num), (.s (bs y1.expr.value.text)), (.s (bs y1.expr.qual)), (.s (bs y1.expr.name)), (.sl 10 (y1.expr.kids.map cGExpr)), (.sl 6 (y1.expr.sub.map cGQuery)), (.s (bs y1.as_))])), (15, (.d (.b (decide (x14 < (p0.items.length : Int)))))), (1, (.ptr 1 0)), (3, (.d (.sl 10 (x3.map cGExpr)))), (12, (.d (.sl 13 (p0.items.map cGItem)))), (13, (.d (.i .i64 (p0.items.length : Int)))), (14, (.d (.i .i64 x14)))], [(5, [(.d (.b y1.star)), (.d (.s (bs y1.qual))), (.d (.i .i64 y1.expr.kind)), (.d (.i .i64 y1.expr.op)), (.d (.b y1.expr.not_)), (.d (.i .i64 y1.expr.value.kind)), (.d (.i .i64 y1.expr.value.num)), (.d (.s (bs y1.expr.value.text))), (.d (.s (bs y1.expr.qual))), (.d (.s (bs y1.expr.name))), (.d (.sl 10 (y1.expr.kids.map cGExpr))), (.d (.sl 6 (y1.expr.sub.map cGQuery))), (.d (.s (bs y1.as_)))]), (1, [(.d (.b p0.distinct)), (.d (.sl 13 (p0.items.map cGItem))), (.d (.sl 3 (p0.from_.map cGSource))), (.d (.sl 10 (p0.where_.map cGExpr))), (.d (.sl 11 (p0.order.map cGSortKey))), (.d (.i .i64 p0.limit))])]⟩) (by kernel_rfl) ?_
        refine nil_in ?_
        refine blockK_norm ?_
        exact next_step (s' := stiQuery_exprs_J1 p0 x14 y2) (wk_ren [(3, .old 3)] (by kernel_rfl) (er_cons (vr_same (by kernel_rfl) (by kernel_rfl)) (er_cons (vr_old (t := 3) (by kernel_rfl) (by kernel_rfl)) (er_cons (vr_same (by kernel_rfl) (by kernel_rfl)) (er_cons (vr_same (by kernel_rfl) (by kernel_rfl)) (er_cons (vr_same (by kernel_rfl) (by kernel_rfl)) (er_nil)))))) (br_same (by kernel_rfl) (by kernel_rfl) (br_nil))) (OK_iQuery_exprs_J1 x14 y2 _ h)
      · clear h; intro h
        refine skip_in ?_
        refine blockK_norm ?_
        exact next_step (s' := stiQuery_exprs_J1 p0 x14 x3) (wk_ren [(3, .old 3)] (by kernel_rfl) (er_cons (vr_same (by kernel_rfl) (by kernel_rfl)) (er_cons (vr_old (t := 3) (by kernel_rfl) (by kernel_rfl)) (er_cons (vr_same (by kernel_rfl) (by kernel_rfl)) (er_cons (vr_same (by kernel_rfl) (by kernel_rfl)) (er_cons (vr_same (by kernel_rfl) (by kernel_rfl)) (er_nil)))))) (br_same (by kernel_rfl) (by kernel_rfl) (br_nil))) (OK_iQuery_exprs_J1 x14 x3 _ h)
    · clear h; intro h
      refine exit_in ?_
      refine thenK_exit ?_
      refine thenK_exit ?_
      refine blockK_here ?_
      refine next_in ?_
      refine seq_in ?_
      refine seq_in ?_
      refine ops_in ?_
      refine sts_ok 2 (s' := ⟨(28, (.d (.sl 3 (p0.from_.map cGSource)))) :: (27, (.ptr 1 2)) :: (15, (.d (.b (decide (x14 < (p0.items.length : Int)))))) :: (stiQuery_exprs_L0 p0 x3 x14).env, (stiQuery_exprs_L0 p0 x3 x14).bx⟩) (by kernel_rfl) ?_
      refine p_step (v' := (.d (.i .i64 (p0.from_.length : Int)))) rfl rfl (vop_len (sz := 3) (l := p0.from_) (f := cGSource) (by kernel_rfl) (by kernel_rfl)) ?_
      refine sts_ok 1 (s' := ⟨(30, (.d (.i .i64 0))) :: (29, (.d (.i .i64 (p0.from_.length : Int)))) :: (28, (.d (.sl 3 (p0.from_.map cGSource)))) :: (27, (.ptr 1 2)) :: (15, (.d (.b (decide (x14 < (p0.items.length : Int)))))) :: (stiQuery_exprs_L0 p0 x3 x14).env, (stiQuery_exprs_L0 p0 x3 x14).bx⟩) (by kernel_rfl) ?_
      refine nil_in ?_
      refine next_in ?_
      refine block_in ?_
      exact loop_go (s' := stiQuery_exprs_L2 p0 x3 0) (wk_ren [(3, .old 3)] (by kernel_rfl) (er_cons (vr_same (by kernel_rfl) (by kernel_rfl)) (er_cons (vr_old (t := 3) (by kernel_rfl) (by kernel_rfl)) (er_cons (vr_same (by kernel_rfl) (by kernel_rfl)) (er_cons (vr_same (by kernel_rfl) (by kernel_rfl)) (er_cons (vr_same (by kernel_rfl) (by kernel_rfl)) (er_nil)))))) (br_same (by kernel_rfl) (by kernel_rfl) (br_nil))) (OK_iQuery_exprs_L2 p0 x3 0 _ h)
theorem OK_iQuery_exprs_J1 (p0 : GQuery) (x14 : Int) (x3_3 : (List GExpr)) (r : (List GExpr)) (h : iQuery_exprs_J1 p0 x14 x3_3 = some r) : avc Try.prog aciQuery_exprs_J1 (qiQuery_exprs_2 r) (stiQuery_exprs_J1 p0 x14 x3_3) := (OKs_iQuery_exprs_J1 p0).1 x14 x3_3 r h
theorem OK_iQuery_exprs_L0 (p0 : GQuery) (x3 : (List GExpr)) (x14 : Int) (r : (List GExpr)) (h : iQuery_exprs_L0 p0 x3 x14 = some r) : avc Try.prog aciQuery_exprs_L0 (qiQuery_exprs_1 r) (stiQuery_exprs_L0 p0 x3 x14) := (OKs_iQuery_exprs_J1 p0).2 x3 x14 r h
theorem OK_iQuery_exprs (p0 : GQuery) : FOkB Try.prog 66 [(vGQuery p0)] [] (fun (y : (List GExpr)) => (.osl 2000000 49 10 (y.map cGExpr))) (fun (y : (List GExpr)) => []) (iQuery_exprs p0) := by
  intro r h
  rw [iQuery_exprs] at h
  refine acalls_of_fn triQuery_exprs (Nat.le_of_ble_eq_true rfl) (by simp) ?_
  show avc Try.prog aciQuery_exprs (qiQuery_exprs _) ⟨[(0, (vGQuery p0))], []⟩
  delta aciQuery_exprs
  refine seq_in ?_
  refine ops_in ?_
  refine sts_ok 2 (s' := ⟨[(2, (.nil 10)), (1, (.ptr 1 0)), (0, (vGQuery p0))], [(1, [(.d (.b p0.distinct)), (.d (.sl 13 (p0.items.map cGItem))), (.d (.sl 3 (p0.from_.map cGSource))), (.d (.sl 10 (p0.where_.map cGExpr))), (.d (.sl 11 (p0.order.map cGSortKey))), (.d (.i .i64 p0.limit))])]⟩) (by kernel_rfl) ?_
  refine nil_in ?_
  refine next_in ?_
  refine seq_in ?_
  refine ops_in ?_
  refine bsl_step (l := ([] : List GExpr)) (f := cGExpr) (g := oGExpr) (by kernel_rfl) cGExpr_eq (by kernel_rfl) ?_
  refine sts_ok 1 (s' := ⟨[(3, (.osl 3 49 10 (([] : List GExpr).map cGExpr))), (10, (.d (.sl 10 (([] : List GExpr).map cGExpr)))), (2, (.nil 10)), (1, (.ptr 1 0)), (0, (vGQuery p0))], [(1, [(.d (.b p0.distinct)), (.d (.sl 13 (p0.items.map cGItem))), (.d (.sl 3 (p0.from_.map cGSource))), (.d (.sl 10 (p0.where_.map cGExpr))), (.d (.sl 11 (p0.order.map cGSortKey))), (.d (.i .i64 p0.limit))])]⟩) (by kernel_rfl) ?_
  refine nil_in ?_
  refine next_in ?_
  refine seq_in ?_
  refine seq_in ?_
  refine ops_in ?_
  refine sts_ok 2 (s' := ⟨[(12, (.d (.sl 13 (p0.items.map cGItem)))), (11, (.ptr 1 1)), (3, (.osl 3 49 10 (([] : List GExpr).map cGExpr))), (10, (.d (.sl 10 (([] : List GExpr).map cGExpr)))), (2, (.nil 10)), (1, (.ptr 1 0)), (0, (vGQuery p0))], [(1, [(.d (.b p0.distinct)), (.d (.sl 13 (p0.items.map cGItem))), (.d (.sl 3 (p0.from_.map cGSource))), (.d (.sl 10 (p0.where_.map cGExpr))), (.d (.sl 11 (p0.order.map cGSortKey))), (.d (.i .i64 p0.limit))])]⟩) (by kernel_rfl) ?_
  refine p_step (v' := (.d (.i .i64 (p0.items.length : Int)))) rfl rfl (vop_len (sz := 13) (l := p0.items) (f := cGItem) (by kernel_rfl) (by kernel_rfl)) ?_
  refine sts_ok 1 (s' := ⟨[(14, (.d (.i .i64 0))), (13, (.d (.i .i64 (p0.items.length : Int)))), (12, (.d (.sl 13 (p0.items.map cGItem)))), (11, (.ptr 1 1)), (3, (.osl 3 49 10 (([] : List GExpr).map cGExpr))), (10, (.d (.sl 10 (([] : List GExpr).map cGExpr)))), (2, (.nil 10)), (1, (.ptr 1 0)), (0, (vGQuery p0))], [(1, [(.d (.b p0.distinct)), (.d (.sl 13 (p0.items.map cGItem))), (.d (.sl 3 (p0.from_.map cGSource))), (.d (.sl 10 (p0.where_.map cGExpr))), (.d (.sl 11 (p0.order.map cGSortKey))), (.d (.i .i64 p0.limit))])]⟩) (by kernel_rfl) ?_
  refine nil_in ?_
  refine next_in ?_
  refine block_in ?_
  exact loop_go (s' := stiQuery_exprs_L0 p0 ([] : List GExpr) 0) (wk_ren [(3, .old 3)] (by kernel_rfl) (er_cons (vr_same (by kernel_rfl) (by kernel_rfl)) (er_cons (vr_old (t := 3) (by kernel_rfl) (by kernel_rfl)) (er_cons (vr_same (by kernel_rfl) (by kernel_rfl)) (er_cons (vr_same (by kernel_rfl) (by kernel_rfl)) (er_cons (vr_same (by kernel_rfl) (by kernel_rfl)) (er_nil)))))) (br_same (by kernel_rfl) (by kernel_rfl) (br_nil))) (OK_iQuery_exprs_L0 p0 ([] : List GExpr) 0 _ h)
theorem OK_iBinLevel_J2 (x20 : Bool) (r : Int) (h : iBinLevel_J2 x20 = some r) : avc Try.prog aciBinLevel_J2 (qiBinLevel_1 r) (stiBinLevel_J2 x20) := by
  rw [iBinLevel_J2] at h
  delta aciBinLevel_J2
  refine cond_step h (by kernel_rfl) ?_ ?_
  · clear h; intro h
    refine seq_in ?_
    refine ops_in ?_
    refine sts_ok 1 (s' := ⟨(2, (.d (.i .i64 7))) :: (stiBinLevel_J2 x20).env, (stiBinLevel_J2 x20).bx⟩) (by kernel_rfl) ?_
    refine nil_in ?_
    refine next_in ?_
    refine ret_in ?_
    refine blockK_ret ?_
    refine thenK_ret ?_
    have h := Option.some.inj h; subst h
    exact ret1_step (v := (.d (.i .i64 7))) (by kernel_rfl) (by kernel_rfl) (by kernel_rfl)
  · clear h; intro h
    refine skip_in ?_
    refine blockK_norm ?_
    refine next_in ?_
    refine seq_in ?_
    refine ops_in ?_
    refine sts_ok 1 (s' := ⟨(2, (.d (.i .i64 0))) :: (stiBinLevel_J2 x20).env, (stiBinLevel_J2 x20).bx⟩) (by kernel_rfl) ?_
    refine nil_in ?_
    refine next_in ?_
    refine ret_in ?_
    have h := Option.some.inj h; subst h
    exact ret1_step (v := (.d (.i .i64 0))) (by kernel_rfl) (by kernel_rfl) (by kernel_rfl)
theorem OK_iBinLevel_J1 (p0 : Int) (x17 : Bool) (r : Int) (h : iBinLevel_J1 p0 x17 = some r) : avc Try.prog aciBinLevel_J1 (qiBinLevel_1 r) (stiBinLevel_J1 p0 x17) := by
  rw [iBinLevel_J1] at h
  delta aciBinLevel_J1
  refine cond_step h (by kernel_rfl) ?_ ?_
  · clear h; intro h
    refine seq_in ?_
    refine ops_in ?_
    refine sts_ok 1 (s' := ⟨(2, (.d (.i .i64 6))) :: (stiBinLevel_J1 p0 x17).env, (stiBinLevel_J1 p0 x17).bx⟩) (by kernel_rfl) ?_
    refine nil_in ?_
    refine next_in ?_
    refine ret_in ?_
    refine blockK_ret ?_
    refine thenK_ret ?_
    have h := Option.some.inj h; subst h
    exact ret1_step (v := (.d (.i .i64 6))) (by kernel_rfl) (by kernel_rfl) (by kernel_rfl)
  · clear h; intro h
    refine seq_in ?_
    refine seq_in ?_
    refine ops_in ?_
    refine sts_ok 2 (s' := ⟨(20, (.d (.b (decide (p0 = 12))))) :: (21, (.d (.b (decide (p0 = 12))))) :: (stiBinLevel_J1 p0 x17).env, (stiBinLevel_J1 p0 x17).bx⟩) (by kernel_rfl) ?_
    refine nil_in ?_
    refine next_in ?_
    refine cond_step h (by kernel_rfl) ?_ ?_
    · clear h; intro h
      refine skip_in ?_
      exact next_step (s' := stiBinLevel_J2 (decide (p0 = 12))) (wk_ren [] (by kernel_rfl) (er_cons (vr_same (by kernel_rfl) (by kernel_rfl)) (er_nil)) (br_nil)) (OK_iBinLevel_J2 (decide (p0 = 12)) _ h)
    · clear h; intro h
      refine seq_in ?_
      refine ops_in ?_
      refine sts_ok 2 (s' := ⟨(20, (.d (.b (decide (p0 = 13))))) :: (22, (.d (.b (decide (p0 = 13))))) :: (20, (.d (.b (decide (p0 = 12))))) :: (21, (.d (.b (decide (p0 = 12))))) :: (stiBinLevel_J1 p0 x17).env, (stiBinLevel_J1 p0 x17).bx⟩) (by kernel_rfl) ?_
      refine nil_in ?_
      refine next_in ?_
      refine cond_step h (by kernel_rfl) ?_ ?_
      · clear h; intro h
        refine skip_in ?_
        exact next_step (s' := stiBinLevel_J2 (decide (p0 = 13))) (wk_ren [] (by kernel_rfl) (er_cons (vr_same (by kernel_rfl) (by kernel_rfl)) (er_nil)) (br_nil)) (OK_iBinLevel_J2 (decide (p0 = 13)) _ h)
      · clear h; intro h
        refine ops_in ?_
        refine sts_ok 2 (s' := ⟨(20, (.d (.b (decide (p0 = 14))))) :: (23, (.d (.b (decide (p0 = 14))))) :: (20, (.d (.b (decide (p0 = 13))))) :: (22, (.d (.b (decide (p0 = 13))))) :: (20, (.d (.b (decide (p0 = 12))))) :: (21, (.d (.b (decide (p0 = 12))))) :: (stiBinLevel_J1 p0 x17).env, (stiBinLevel_J1 p0 x17).bx⟩) (by kernel_rfl) ?_
        refine nil_in ?_
        exact next_step (s' := stiBinLevel_J2 (decide (p0 = 14))) (wk_ren [] (by kernel_rfl) (er_cons (vr_same (by kernel_rfl) (by kernel_rfl)) (er_nil)) (br_nil)) (OK_iBinLevel_J2 (decide (p0 = 14)) _ h)
theorem OK_iBinLevel_J0 (p0 : Int) (x8 : Bool) (r : Int) (h : iBinLevel_J0 p0 x8 = some r) : avc Try.prog aciBinLevel_J0 (qiBinLevel_1 r) (stiBinLevel_J0 p0 x8) := by
  rw [iBinLevel_J0] at h
  delta aciBinLevel_J0
  refine cond_step h (by kernel_rfl) ?_ ?_
  · clear h; intro h
    refine seq_in ?_
    refine ops_in ?_
    refine sts_ok 1 (s' := ⟨(2, (.d (.i .i64 4))) :: (stiBinLevel_J0 p0 x8).env, (stiBinLevel_J0 p0 x8).bx⟩) (by kernel_rfl) ?_
    refine nil_in ?_
    refine next_in ?_
    refine ret_in ?_
    refine blockK_ret ?_
    refine thenK_ret ?_
    have h := Option.some.inj h; subst h
    exact ret1_step (v := (.d (.i .i64 4))) (by kernel_rfl) (by kernel_rfl) (by kernel_rfl)
  · clear h; intro h
    refine seq_in ?_
    refine ops_in ?_
    refine sts_ok 2 (s' := ⟨(15, (.d (.b (decide (p0 = 9))))) :: (16, (.d (.b (decide (p0 = 9))))) :: (stiBinLevel_J0 p0 x8).env, (stiBinLevel_J0 p0 x8).bx⟩) (by kernel_rfl) ?_
    refine nil_in ?_
    refine next_in ?_
    refine cond_step h (by kernel_rfl) ?_ ?_
    · clear h; intro h
      refine seq_in ?_
      refine ops_in ?_
      refine sts_ok 1 (s' := ⟨(2, (.d (.i .i64 5))) :: (15, (.d (.b (decide (p0 = 9))))) :: (16, (.d (.b (decide (p0 = 9))))) :: (stiBinLevel_J0 p0 x8).env, (stiBinLevel_J0 p0 x8).bx⟩) (by kernel_rfl) ?_
      refine nil_in ?_
      refine next_in ?_
      refine ret_in ?_
      refine blockK_ret ?_
      refine thenK_ret ?_
      have h := Option.some.inj h; subst h
      exact ret1_step (v := (.d (.i .i64 5))) (by kernel_rfl) (by kernel_rfl) (by kernel_rfl)
    · clear h; intro h
      refine seq_in ?_
      refine seq_in ?_
      refine ops_in ?_
      refine sts_ok 2 (s' := ⟨(17, (.d (.b (decide (p0 = 10))))) :: (18, (.d (.b (decide (p0 = 10))))) :: (15, (.d (.b (decide (p0 = 9))))) :: (16, (.d (.b (decide (p0 = 9))))) :: (stiBinLevel_J0 p0 x8).env, (stiBinLevel_J0 p0 x8).bx⟩) (by kernel_rfl) ?_
      refine nil_in ?_
      refine next_in ?_
      refine cond_step h (by kernel_rfl) ?_ ?_
      · clear h; intro h
        refine skip_in ?_
        exact next_step (s' := stiBinLevel_J1 p0 (decide (p0 = 10))) (wk_ren [] (by kernel_rfl) (er_cons (vr_same (by kernel_rfl) (by kernel_rfl)) (er_cons (vr_same (by kernel_rfl) (by kernel_rfl)) (er_nil))) (br_nil)) (OK_iBinLevel_J1 p0 (decide (p0 = 10)) _ h)
      · clear h; intro h
        refine ops_in ?_
        refine sts_ok 2 (s' := ⟨(17, (.d (.b (decide (p0 = 11))))) :: (19, (.d (.b (decide (p0 = 11))))) :: (17, (.d (.b (decide (p0 = 10))))) :: (18, (.d (.b (decide (p0 = 10))))) :: (15, (.d (.b (decide (p0 = 9))))) :: (16, (.d (.b (decide (p0 = 9))))) :: (stiBinLevel_J0 p0 x8).env, (stiBinLevel_J0 p0 x8).bx⟩) (by kernel_rfl) ?_
        refine nil_in ?_
        exact next_step (s' := stiBinLevel_J1 p0 (decide (p0 = 11))) (wk_ren [] (by kernel_rfl) (er_cons (vr_same (by kernel_rfl) (by kernel_rfl)) (er_cons (vr_same (by kernel_rfl) (by kernel_rfl)) (er_nil))) (br_nil)) (OK_iBinLevel_J1 p0 (decide (p0 = 11)) _ h)
theorem OK_iBinLevel (p0 : Int) : FOk Try.prog 176 [(.d (.i .i64 p0))] (fun y => (.d (.i .i64 y))) (iBinLevel p0) := by
  intro r h
  rw [iBinLevel] at h
  refine acalls_of_fn triBinLevel (Nat.le_of_ble_eq_true rfl) (by simp) ?_
  show avc Try.prog aciBinLevel (qiBinLevel _) ⟨[(0, (.d (.i .i64 p0)))], []⟩
  delta aciBinLevel
  refine seq_in ?_
  refine ops_in ?_
  refine sts_ok 1 (s' := ⟨[(2, (.d (.i .i64 0))), (0, (.d (.i .i64 p0)))], []⟩) (by kernel_rfl) ?_
  refine nil_in ?_
  refine next_in ?_
  refine seq_in ?_
  refine seq_in ?_
  refine ops_in ?_
  refine sts_ok 1 (s' := ⟨[(3, (.d (.i .i64 p0))), (2, (.d (.i .i64 0))), (0, (.d (.i .i64 p0)))], []⟩) (by kernel_rfl) ?_
  refine nil_in ?_
  refine next_in ?_
  refine block_in ?_
  refine seq_in ?_
  refine ops_in ?_
  refine sts_ok 2 (s' := ⟨[(4, (.d (.b (decide (p0 = 1))))), (5, (.d (.b (decide (p0 = 1))))), (3, (.d (.i .i64 p0))), (2, (.d (.i .i64 0))), (0, (.d (.i .i64 p0)))], []⟩) (by kernel_rfl) ?_
  refine nil_in ?_
  refine next_in ?_
  refine cond_step h (by kernel_rfl) ?_ ?_
  · clear h; intro h
    refine seq_in ?_
    refine ops_in ?_
    refine sts_ok 1 (s' := ⟨[(2, (.d (.i .i64 1))), (4, (.d (.b (decide (p0 = 1))))), (5, (.d (.b (decide (p0 = 1))))), (3, (.d (.i .i64 p0))), (2, (.d (.i .i64 0))), (0, (.d (.i .i64 p0)))], []⟩) (by kernel_rfl) ?_
    refine nil_in ?_
    refine next_in ?_
    refine ret_in ?_
    refine blockK_ret ?_
    refine thenK_ret ?_
    have h := Option.some.inj h; subst h
    exact ret1_step (v := (.d (.i .i64 1))) (by kernel_rfl) (by kernel_rfl) (by kernel_rfl)
  · clear h; intro h
    refine seq_in ?_
    refine ops_in ?_
    refine sts_ok 2 (s' := ⟨[(6, (.d (.b (decide (p0 = 2))))), (7, (.d (.b (decide (p0 = 2))))), (4, (.d (.b (decide (p0 = 1))))), (5, (.d (.b (decide (p0 = 1))))), (3, (.d (.i .i64 p0))), (2, (.d (.i .i64 0))), (0, (.d (.i .i64 p0)))], []⟩) (by kernel_rfl) ?_
    refine nil_in ?_
    refine next_in ?_
    refine cond_step h (by kernel_rfl) ?_ ?_
    · clear h; intro h
      refine seq_in ?_
      refine ops_in ?_
      refine sts_ok 1 (s' := ⟨[(2, (.d (.i .i64 2))), (6, (.d (.b (decide (p0 = 2))))), (7, (.d (.b (decide (p0 = 2))))), (4, (.d (.b (decide (p0 = 1))))), (5, (.d (.b (decide (p0 = 1))))), (3, (.d (.i .i64 p0))), (2, (.d (.i .i64 0))), (0, (.d (.i .i64 p0)))], []⟩) (by kernel_rfl) ?_
      refine nil_in ?_
      refine next_in ?_
      refine ret_in ?_
      refine blockK_ret ?_
      refine thenK_ret ?_
      have h := Option.some.inj h; subst h
      exact ret1_step (v := (.d (.i .i64 2))) (by kernel_rfl) (by kernel_rfl) (by kernel_rfl)
    · clear h; intro h
      refine seq_in ?_
      refine seq_in ?_
      refine ops_in ?_
      refine sts_ok 2 (s' := ⟨[(8, (.d (.b (decide (p0 = 3))))), (9, (.d (.b (decide (p0 = 3))))), (6, (.d (.b (decide (p0 = 2))))), (7, (.d (.b (decide (p0 = 2))))), (4, (.d (.b (decide (p0 = 1))))), (5, (.d (.b (decide (p0 = 1))))), (3, (.d (.i .i64 p0))), (2, (.d (.i .i64 0))), (0, (.d (.i .i64 p0)))], []⟩) (by kernel_rfl) ?_
      refine nil_in ?_
      refine next_in ?_
      refine cond_step h (by kernel_rfl) ?_ ?_
      · clear h; intro h
        refine skip_in ?_
        exact next_step (s' := stiBinLevel_J0 p0 (decide (p0 = 3))) (wk_ren [] (by kernel_rfl) (er_cons (vr_same (by kernel_rfl) (by kernel_rfl)) (er_cons (vr_same (by kernel_rfl) (by kernel_rfl)) (er_nil))) (br_nil)) (OK_iBinLevel_J0 p0 (decide (p0 = 3)) _ h)
      · clear h; intro h
        refine seq_in ?_
        refine ops_in ?_
        refine sts_ok 2 (s' := ⟨[(8, (.d (.b (decide (p0 = 4))))), (10, (.d (.b (decide (p0 = 4))))), (8, (.d (.b (decide (p0 = 3))))), (9, (.d (.b (decide (p0 = 3))))), (6, (.d (.b (decide (p0 = 2))))), (7, (.d (.b (decide (p0 = 2))))), (4, (.d (.b (decide (p0 = 1))))), (5, (.d (.b (decide (p0 = 1))))), (3, (.d (.i .i64 p0))), (2, (.d (.i .i64 0))), (0, (.d (.i .i64 p0)))], []⟩) (by kernel_rfl) ?_
        refine nil_in ?_
        refine next_in ?_
        refine cond_step h (by kernel_rfl) ?_ ?_
        · clear h; intro h
          refine skip_in ?_
          exact next_step (s' := stiBinLevel_J0 p0 (decide (p0 = 4))) (wk_ren [] (by kernel_rfl) (er_cons (vr_same (by kernel_rfl) (by kernel_rfl)) (er_cons (vr_same (by kernel_rfl) (by kernel_rfl)) (er_nil))) (br_nil)) (OK_iBinLevel_J0 p0 (decide (p0 = 4)) _ h)
        · clear h; intro h
          refine seq_in ?_
          refine ops_in ?_
          refine sts_ok 2 (s' := ⟨[(8, (.d (.b (decide (p0 = 5))))), (11, (.d (.b (decide (p0 = 5))))), (8, (.d (.b (decide (p0 = 4))))), (10, (.d (.b (decide (p0 = 4))))), (8, (.d (.b (decide (p0 = 3))))), (9, (.d (.b (decide (p0 = 3))))), (6, (.d (.b (decide (p0 = 2))))), (7, (.d (.b (decide (p0 = 2))))), (4, (.d (.b (decide (p0 = 1))))), (5, (.d (.b (decide (p0 = 1))))), (3, (.d (.i .i64 p0))), (2, (.d (.i .i64 0))), (0, (.d (.i .i64 p0)))], []⟩) (by kernel_rfl) ?_
          refine nil_in ?_
          refine next_in ?_
          refine cond_step h (by kernel_rfl) ?_ ?_
          · clear h; intro h
            refine skip_in ?_
            exact next_step (s' := stiBinLevel_J0 p0 (decide (p0 = 5))) (wk_ren [] (by kernel_rfl) (er_cons (vr_same (by kernel_rfl) (by kernel_rfl)) (er_cons (vr_same (by kernel_rfl) (by kernel_rfl)) (er_nil))) (br_nil)) (OK_iBinLevel_J0 p0 (decide (p0 = 5)) _ h)
          · clear h; intro h
            refine seq_in ?_
            refine ops_in ?_
            refine sts_ok 2 (s' := ⟨[(8, (.d (.b (decide (p0 = 6))))), (12, (.d (.b (decide (p0 = 6))))), (8, (.d (.b (decide (p0 = 5))))), (11, (.d (.b (decide (p0 = 5))))), (8, (.d (.b (decide (p0 = 4))))), (10, (.d (.b (decide (p0 = 4))))), (8, (.d (.b (decide (p0 = 3))))), (9, (.d (.b (decide (p0 = 3))))), (6, (.d (.b (decide (p0 = 2))))), (7, (.d (.b (decide (p0 = 2))))), (4, (.d (.b (decide (p0 = 1))))), (5, (.d (.b (decide (p0 = 1))))), (3, (.d (.i .i64 p0))), (2, (.d (.i .i64 0))), (0, (.d (.i .i64 p0)))], []⟩) (by kernel_rfl) ?_
            refine nil_in ?_
            refine next_in ?_
            refine cond_step h (by kernel_rfl) ?_ ?_
            · clear h; intro h
              refine skip_in ?_
              exact next_step (s' := stiBinLevel_J0 p0 (decide (p0 = 6))) (wk_ren [] (by kernel_rfl) (er_cons (vr_same (by kernel_rfl) (by kernel_rfl)) (er_cons (vr_same (by kernel_rfl) (by kernel_rfl)) (er_nil))) (br_nil)) (OK_iBinLevel_J0 p0 (decide (p0 = 6)) _ h)
            · clear h; intro h
              refine seq_in ?_
              refine ops_in ?_
              refine sts_ok 2 (s' := ⟨[(8, (.d (.b (decide (p0 = 7))))), (13, (.d (.b (decide (p0 = 7))))), (8, (.d (.b (decide (p0 = 6))))), (12, (.d (.b (decide (p0 = 6))))), (8, (.d (.b (decide (p0 = 5))))), (11, (.d (.b (decide (p0 = 5))))), (8, (.d (.b (decide (p0 = 4))))), (10, (.d (.b (decide (p0 = 4))))), (8, (.d (.b (decide (p0 = 3))))), (9, (.d (.b (decide (p0 = 3))))), (6, (.d (.b (decide (p0 = 2))))), (7, (.d (.b (decide (p0 = 2))))), (4, (.d (.b (decide (p0 = 1))))), (5, (.d (.b (decide (p0 = 1))))), (3, (.d (.i .i64 p0))), (2, (.d (.i .i64 0))), (0, (.d (.i .i64 p0)))], []⟩) (by kernel_rfl) ?_
              refine nil_in ?_
              refine next_in ?_
              refine cond_step h (by kernel_rfl) ?_ ?_
              · clear h; intro h
                refine skip_in ?_
                exact next_step (s' := stiBinLevel_J0 p0 (decide (p0 = 7))) (wk_ren [] (by kernel_rfl) (er_cons (vr_same (by kernel_rfl) (by kernel_rfl)) (er_cons (vr_same (by kernel_rfl) (by kernel_rfl)) (er_nil))) (br_nil)) (OK_iBinLevel_J0 p0 (decide (p0 = 7)) _ h)
              · clear h; intro h
                refine ops_in ?_
                refine sts_ok 2 (s' := ⟨[(8, (.d (.b (decide (p0 = 8))))), (14, (.d (.b (decide (p0 = 8))))), (8, (.d (.b (decide (p0 = 7))))), (13, (.d (.b (decide (p0 = 7))))), (8, (.d (.b (decide (p0 = 6))))), (12, (.d (.b (decide (p0 = 6))))), (8, (.d (.b (decide (p0 = 5))))), (11, (.d (.b (decide (p0 = 5))))), (8, (.d (.b (decide (p0 = 4))))), (10, (.d (.b (decide (p0 = 4))))), (8, (.d (.b (decide (p0 = 3))))), (9, (.d (.b (decide (p0 = 3))))), (6, (.d (.b (decide (p0 = 2))))), (7, (.d (.b (decide (p0 = 2))))), (4, (.d (.b (decide (p0 = 1))))), (5, (.d (.b (decide (p0 = 1))))), (3, (.d (.i .i64 p0))), (2, (.d (.i .i64 0))), (0, (.d (.i .i64 p0)))], []⟩) (by kernel_rfl) ?_
                refine nil_in ?_
                exact next_step (s' := stiBinLevel_J0 p0 (decide (p0 = 8))) (wk_ren [] (by kernel_rfl) (er_cons (vr_same (by kernel_rfl) (by kernel_rfl)) (er_cons (vr_same (by kernel_rfl) (by kernel_rfl)) (er_nil))) (br_nil)) (OK_iBinLevel_J0 p0 (decide (p0 = 8)) _ h)
theorem OK_iLevelOf_J0 (r : Int) (h : iLevelOf_J0 = some r) : avc Try.prog aciLevelOf_J0 (qiLevelOf r) (stiLevelOf_J0) := by
  rw [iLevelOf_J0] at h
  delta aciLevelOf_J0
  refine seq_in ?_
  refine ops_in ?_
  refine sts_ok 1 (s' := ⟨(2, (.d (.i .i64 0))) :: (stiLevelOf_J0).env, (stiLevelOf_J0).bx⟩) (by kernel_rfl) ?_
  refine nil_in ?_
  refine next_in ?_
  refine ret_in ?_
  have h := Option.some.inj h; subst h
  exact ret1_step (v := (.d (.i .i64 0))) (by kernel_rfl) (by kernel_rfl) (by kernel_rfl)
theorem OK_iLevelOf_J2 (x23 : Bool) (r : Int) (h : iLevelOf_J2 x23 = some r) : avc Try.prog aciLevelOf_J2 (qiLevelOf_1 r) (stiLevelOf_J2 x23) := by
  rw [iLevelOf_J2] at h
  delta aciLevelOf_J2
  refine cond_step h (by kernel_rfl) ?_ ?_
  · clear h; intro h
    refine seq_in ?_
    refine ops_in ?_
    refine sts_ok 1 (s' := ⟨(2, (.d (.i .i64 9))) :: (stiLevelOf_J2 x23).env, (stiLevelOf_J2 x23).bx⟩) (by kernel_rfl) ?_
    refine nil_in ?_
    refine next_in ?_
    refine ret_in ?_
    refine blockK_ret ?_
    refine thenK_ret ?_
    have h := Option.some.inj h; subst h
    exact ret1_step (v := (.d (.i .i64 9))) (by kernel_rfl) (by kernel_rfl) (by kernel_rfl)
  · clear h; intro h
    refine skip_in ?_
    refine blockK_norm ?_
    exact next_step (s' := stiLevelOf_J0) (wk_ren [] (by kernel_rfl) (er_nil) (br_nil)) (OK_iLevelOf_J0 _ h)
theorem OK_iLevelOf_J1 (p0 : GExpr) (x18 : Bool) (r : Int) (h : iLevelOf_J1 p0 x18 = some r) : avc Try.prog aciLevelOf_J1 (qiLevelOf_1 r) (stiLevelOf_J1 p0 x18) := by
  rw [iLevelOf_J1] at h
  delta aciLevelOf_J1
  refine cond_step h (by kernel_rfl) ?_ ?_
  · clear h; intro h
    refine seq_in ?_
    refine ops_in ?_
    refine sts_ok 1 (s' := ⟨(2, (.d (.i .i64 4))) :: (stiLevelOf_J1 p0 x18).env, (stiLevelOf_J1 p0 x18).bx⟩) (by kernel_rfl) ?_
    refine nil_in ?_
    refine next_in ?_
    refine ret_in ?_
    refine blockK_ret ?_
    refine thenK_ret ?_
    have h := Option.some.inj h; subst h
    exact ret1_step (v := (.d (.i .i64 4))) (by kernel_rfl) (by kernel_rfl) (by kernel_rfl)
  · clear h; intro h
    refine seq_in ?_
    refine seq_in ?_
    refine ops_in ?_
    refine sts_ok 2 (s' := ⟨(23, (.d (.b (decide (p0.kind = 1))))) :: (24, (.d (.b (decide (p0.kind = 1))))) :: (stiLevelOf_J1 p0 x18).env, (stiLevelOf_J1 p0 x18).bx⟩) (by kernel_rfl) ?_
    refine nil_in ?_
    refine next_in ?_
    refine cond_step h (by kernel_rfl) ?_ ?_
    · clear h; intro h
      refine skip_in ?_
      exact next_step (s' := stiLevelOf_J2 (decide (p0.kind = 1))) (wk_ren [] (by kernel_rfl) (er_cons (vr_same (by kernel_rfl) (by kernel_rfl)) (er_nil)) (br_nil)) (OK_iLevelOf_J2 (decide (p0.kind = 1)) _ h)
    · clear h; intro h
      refine seq_in ?_
      refine ops_in ?_
      refine sts_ok 2 (s' := ⟨(23, (.d (.b (decide (p0.kind = 2))))) :: (25, (.d (.b (decide (p0.kind = 2))))) :: (23, (.d (.b (decide (p0.kind = 1))))) :: (24, (.d (.b (decide (p0.kind = 1))))) :: (stiLevelOf_J1 p0 x18).env, (stiLevelOf_J1 p0 x18).bx⟩) (by kernel_rfl) ?_
      refine nil_in ?_
      refine next_in ?_
      refine cond_step h (by kernel_rfl) ?_ ?_
      · clear h; intro h
        refine skip_in ?_
        exact next_step (s' := stiLevelOf_J2 (decide (p0.kind = 2))) (wk_ren [] (by kernel_rfl) (er_cons (vr_same (by kernel_rfl) (by kernel_rfl)) (er_nil)) (br_nil)) (OK_iLevelOf_J2 (decide (p0.kind = 2)) _ h)
      · clear h; intro h
        refine ops_in ?_
        refine sts_ok 2 (s' := ⟨(23, (.d (.b (decide (p0.kind = 9))))) :: (26, (.d (.b (decide (p0.kind = 9))))) :: (23, (.d (.b (decide (p0.kind = 2))))) :: (25, (.d (.b (decide (p0.kind = 2))))) :: (23, (.d (.b (decide (p0.kind = 1))))) :: (24, (.d (.b (decide (p0.kind = 1))))) :: (stiLevelOf_J1 p0 x18).env, (stiLevelOf_J1 p0 x18).bx⟩) (by kernel_rfl) ?_
        refine nil_in ?_
        exact next_step (s' := stiLevelOf_J2 (decide (p0.kind = 9))) (wk_ren [] (by kernel_rfl) (er_cons (vr_same (by kernel_rfl) (by kernel_rfl)) (er_nil)) (br_nil)) (OK_iLevelOf_J2 (decide (p0.kind = 9)) _ h)
theorem OK_iLevelOf (p0 : GExpr) : FOk Try.prog 129 [(vGExpr p0)] (fun y => (.d (.i .i64 y))) (iLevelOf p0) := by
  intro r h
  rw [iLevelOf] at h
  refine acalls_of_fn triLevelOf (Nat.le_of_ble_eq_true rfl) (by simp) ?_
  show avc Try.prog aciLevelOf (qiLevelOf _) ⟨[(0, (vGExpr p0))], []⟩
  delta aciLevelOf
  refine seq_in ?_
  refine ops_in ?_
  refine sts_ok 2 (s' := ⟨[(2, (.d (.i .i64 0))), (1, (.ptr 1 0)), (0, (vGExpr p0))], [(1, [(.d (.i .i64 p0.kind)), (.d (.i .i64 p0.op)), (.d (.b p0.not_)), (.d (.i .i64 p0.value.kind)), (.d (.i .i64 p0.value.num)), (.d (.s (bs p0.value.text))), (.d (.s (bs p0.qual))), (.d (.s (bs p0.name))), (.d (.sl 10 (p0.kids.map cGExpr))), (.d (.sl 6 (p0.sub.map cGQuery)))])]⟩) (by kernel_rfl) ?_
  refine nil_in ?_
  refine next_in ?_
  refine seq_in ?_
  refine seq_in ?_
  refine ops_in ?_
  refine sts_ok 2 (s' := ⟨[(4, (.d (.i .i64 p0.kind))), (3, (.ptr 1 0)), (2, (.d (.i .i64 0))), (1, (.ptr 1 0)), (0, (vGExpr p0))], [(1, [(.d (.i .i64 p0.kind)), (.d (.i .i64 p0.op)), (.d (.b p0.not_)), (.d (.i .i64 p0.value.kind)), (.d (.i .i64 p0.value.num)), (.d (.s (bs p0.value.text))), (.d (.s (bs p0.qual))), (.d (.s (bs p0.name))), (.d (.sl 10 (p0.kids.map cGExpr))), (.d (.sl 6 (p0.sub.map cGQuery)))])]⟩) (by kernel_rfl) ?_
  refine nil_in ?_
  refine next_in ?_
  refine block_in ?_
  refine seq_in ?_
  refine ops_in ?_
  refine sts_ok 2 (s' := ⟨[(5, (.d (.b (decide (p0.kind = 4))))), (6, (.d (.b (decide (p0.kind = 4))))), (4, (.d (.i .i64 p0.kind))), (3, (.ptr 1 0)), (2, (.d (.i .i64 0))), (1, (.ptr 1 0)), (0, (vGExpr p0))], [(1, [(.d (.i .i64 p0.kind)), (.d (.i .i64 p0.op)), (.d (.b p0.not_)), (.d (.i .i64 p0.value.kind)), (.d (.i .i64 p0.value.num)), (.d (.s (bs p0.value.text))), (.d (.s (bs p0.qual))), (.d (.s (bs p0.name))), (.d (.sl 10 (p0.kids.map cGExpr))), (.d (.sl 6 (p0.sub.map cGQuery)))])]⟩) (by kernel_rfl) ?_
  refine nil_in ?_
  refine next_in ?_
  refine cond_step h (by kernel_rfl) ?_ ?_
  · clear h; intro h
    refine seq_in ?_
    refine ops_in ?_
    refine sts_ok 2 (s' := ⟨[(8, (.d (.i .i64 p0.op))), (7, (.ptr 1 1)), (5, (.d (.b (decide (p0.kind = 4))))), (6, (.d (.b (decide (p0.kind = 4))))), (4, (.d (.i .i64 p0.kind))), (3, (.ptr 1 0)), (2, (.d (.i .i64 0))), (1, (.ptr 1 0)), (0, (vGExpr p0))], [(1, [(.d (.i .i64 p0.kind)), (.d (.i .i64 p0.op)), (.d (.b p0.not_)), (.d (.i .i64 p0.value.kind)), (.d (.i .i64 p0.value.num)), (.d (.s (bs p0.value.text))), (.d (.s (bs p0.qual))), (.d (.s (bs p0.name))), (.d (.sl 10 (p0.kids.map cGExpr))), (.d (.sl 6 (p0.sub.map cGQuery)))])]⟩) (by kernel_rfl) ?_
    refine call_step (m := iBinLevel p0.op) (args := [(.d (.i .i64 p0.op))]) (v' := (fun y => (.d (.i .i64 y)))) h (OK_iBinLevel p0.op) (by kernel_rfl) (by kernel_rfl) (fun _ => rfl) ?_
    clear h; intro y1 h
    refine sts_ok 1 (s' := ⟨[(2, (.d (.i .i64 y1))), (9, (.d (.i .i64 y1))), (8, (.d (.i .i64 p0.op))), (7, (.ptr 1 1)), (5, (.d (.b (decide (p0.kind = 4))))), (6, (.d (.b (decide (p0.kind = 4))))), (4, (.d (.i .i64 p0.kind))), (3, (.ptr 1 0)), (2, (.d (.i .i64 0))), (1, (.ptr 1 0)), (0, (vGExpr p0))], [(1, [(.d (.i .i64 p0.kind)), (.d (.i .i64 p0.op)), (.d (.b p0.not_)), (.d (.i .i64 p0.value.kind)), (.d (.i .i64 p0.value.num)), (.d (.s (bs p0.value.text))), (.d (.s (bs p0.qual))), (.d (.s (bs p0.name))), (.d (.sl 10 (p0.kids.map cGExpr))), (.d (.sl 6 (p0.sub.map cGQuery)))])]⟩) (by kernel_rfl) ?_
    refine nil_in ?_
    refine next_in ?_
    refine ret_in ?_
    refine blockK_ret ?_
    refine thenK_ret ?_
    have h := Option.some.inj h; subst h
    exact ret1_step (v := (.d (.i .i64 y1))) (by kernel_rfl) (by kernel_rfl) (by kernel_rfl)
  · clear h; intro h
    refine seq_in ?_
    refine ops_in ?_
    refine sts_ok 2 (s' := ⟨[(10, (.d (.b (decide (p0.kind = 3))))), (11, (.d (.b (decide (p0.kind = 3))))), (5, (.d (.b (decide (p0.kind = 4))))), (6, (.d (.b (decide (p0.kind = 4))))), (4, (.d (.i .i64 p0.kind))), (3, (.ptr 1 0)), (2, (.d (.i .i64 0))), (1, (.ptr 1 0)), (0, (vGExpr p0))], [(1, [(.d (.i .i64 p0.kind)), (.d (.i .i64 p0.op)), (.d (.b p0.not_)), (.d (.i .i64 p0.value.kind)), (.d (.i .i64 p0.value.num)), (.d (.s (bs p0.value.text))), (.d (.s (bs p0.qual))), (.d (.s (bs p0.name))), (.d (.sl 10 (p0.kids.map cGExpr))), (.d (.sl 6 (p0.sub.map cGQuery)))])]⟩) (by kernel_rfl) ?_
    refine nil_in ?_
    refine next_in ?_
    refine cond_step h (by kernel_rfl) ?_ ?_
    · clear h; intro h
      refine seq_in ?_
      refine ops_in ?_
      refine sts_ok 2 (s' := ⟨[(13, (.d (.i .i64 p0.op))), (12, (.ptr 1 1)), (10, (.d (.b (decide (p0.kind = 3))))), (11, (.d (.b (decide (p0.kind = 3))))), (5, (.d (.b (decide (p0.kind = 4))))), (6, (.d (.b (decide (p0.kind = 4))))), (4, (.d (.i .i64 p0.kind))), (3, (.ptr 1 0)), (2, (.d (.i .i64 0))), (1, (.ptr 1 0)), (0, (vGExpr p0))], [(1, [(.d (.i .i64 p0.kind)), (.d (.i .i64 p0.op)), (.d (.b p0.not_)), (.d (.i .i64 p0.value.kind)), (.d (.i .i64 p0.value.num)), (.d (.s (bs p0.value.text))), (.d (.s (bs p0.qual))), (.d (.s (bs p0.name))), (.d (.sl 10 (p0.kids.map cGExpr))), (.d (.sl 6 (p0.sub.map cGQuery)))])]⟩) (by kernel_rfl) ?_
      refine nil_in ?_
      refine next_in ?_
      refine block_in ?_
      refine seq_in ?_
      refine ops_in ?_
      refine sts_ok 2 (s' := ⟨[(14, (.d (.b (decide (p0.op = 15))))), (15, (.d (.b (decide (p0.op = 15))))), (13, (.d (.i .i64 p0.op))), (12, (.ptr 1 1)), (10, (.d (.b (decide (p0.kind = 3))))), (11, (.d (.b (decide (p0.kind = 3))))), (5, (.d (.b (decide (p0.kind = 4))))), (6, (.d (.b (decide (p0.kind = 4))))), (4, (.d (.i .i64 p0.kind))), (3, (.ptr 1 0)), (2, (.d (.i .i64 0))), (1, (.ptr 1 0)), (0, (vGExpr p0))], [(1, [(.d (.i .i64 p0.kind)), (.d (.i .i64 p0.op)), (.d (.b p0.not_)), (.d (.i .i64 p0.value.kind)), (.d (.i .i64 p0.value.num)), (.d (.s (bs p0.value.text))), (.d (.s (bs p0.qual))), (.d (.s (bs p0.name))), (.d (.sl 10 (p0.kids.map cGExpr))), (.d (.sl 6 (p0.sub.map cGQuery)))])]⟩) (by kernel_rfl) ?_
      refine nil_in ?_
      refine next_in ?_
      refine cond_step h (by kernel_rfl) ?_ ?_
      · clear h; intro h
        refine seq_in ?_
        refine ops_in ?_
        refine sts_ok 1 (s' := ⟨[(2, (.d (.i .i64 3))), (14, (.d (.b (decide (p0.op = 15))))), (15, (.d (.b (decide (p0.op = 15))))), (13, (.d (.i .i64 p0.op))), (12, (.ptr 1 1)), (10, (.d (.b (decide (p0.kind = 3))))), (11, (.d (.b (decide (p0.kind = 3))))), (5, (.d (.b (decide (p0.kind = 4))))), (6, (.d (.b (decide (p0.kind = 4))))), (4, (.d (.i .i64 p0.kind))), (3, (.ptr 1 0)), (2, (.d (.i .i64 0))), (1, (.ptr 1 0)), (0, (vGExpr p0))], [(1, [(.d (.i .i64 p0.kind)), (.d (.i .i64 p0.op)), (.d (.b p0.not_)), (.d (.i .i64 p0.value.kind)), (.d (.i .i64 p0.value.num)), (.d (.s (bs p0.value.text))), (.d (.s (bs p0.qual))), (.d (.s (bs p0.name))), (.d (.sl 10 (p0.kids.map cGExpr))), (.d (.sl 6 (p0.sub.map cGQuery)))])]⟩) (by kernel_rfl) ?_
        refine nil_in ?_
        refine next_in ?_
        refine ret_in ?_
        refine blockK_ret ?_
        refine blockK_ret ?_
        refine thenK_ret ?_
        have h := Option.some.inj h; subst h
        exact ret1_step (v := (.d (.i .i64 3))) (by kernel_rfl) (by kernel_rfl) (by kernel_rfl)
      · clear h; intro h
        refine seq_in ?_
        refine ops_in ?_
        refine sts_ok 2 (s' := ⟨[(16, (.d (.b (decide (p0.op = 16))))), (17, (.d (.b (decide (p0.op = 16))))), (14, (.d (.b (decide (p0.op = 15))))), (15, (.d (.b (decide (p0.op = 15))))), (13, (.d (.i .i64 p0.op))), (12, (.ptr 1 1)), (10, (.d (.b (decide (p0.kind = 3))))), (11, (.d (.b (decide (p0.kind = 3))))), (5, (.d (.b (decide (p0.kind = 4))))), (6, (.d (.b (decide (p0.kind = 4))))), (4, (.d (.i .i64 p0.kind))), (3, (.ptr 1 0)), (2, (.d (.i .i64 0))), (1, (.ptr 1 0)), (0, (vGExpr p0))], [(1, [(.d (.i .i64 p0.kind)), (.d (.i .i64 p0.op)), (.d (.b p0.not_)), (.d (.i .i64 p0.value.kind)), (.d (.i .i64 p0.value.num)), (.d (.s (bs p0.value.text))), (.d (.s (bs p0.qual))), (.d (.s (bs p0.name))), (.d (.sl 10 (p0.kids.map cGExpr))), (.d (.sl 6 (p0.sub.map cGQuery)))])]⟩) (by kernel_rfl) ?_
        refine nil_in ?_
        refine next_in ?_
        refine cond_step h (by kernel_rfl) ?_ ?_
        · clear h; intro h
          refine seq_in ?_
          refine ops_in ?_
          refine sts_ok 1 (s' := ⟨[(2, (.d (.i .i64 8))), (16, (.d (.b (decide (p0.op = 16))))), (17, (.d (.b (decide (p0.op = 16))))), (14, (.d (.b (decide (p0.op = 15))))), (15, (.d (.b (decide (p0.op = 15))))), (13, (.d (.i .i64 p0.op))), (12, (.ptr 1 1)), (10, (.d (.b (decide (p0.kind = 3))))), (11, (.d (.b (decide (p0.kind = 3))))), (5, (.d (.b (decide (p0.kind = 4))))), (6, (.d (.b (decide (p0.kind = 4))))), (4, (.d (.i .i64 p0.kind))), (3, (.ptr 1 0)), (2, (.d (.i .i64 0))), (1, (.ptr 1 0)), (0, (vGExpr p0))], [(1, [(.d (.i .i64 p0.kind)), (.d (.i .i64 p0.op)), (.d (.b p0.not_)), (.d (.i .i64 p0.value.kind)), (.d (.i .i64 p0.value.num)), (.d (.s (bs p0.value.text))), (.d (.s (bs p0.qual))), (.d (.s (bs p0.name))), (.d (.sl 10 (p0.kids.map cGExpr))), (.d (.sl 6 (p0.sub.map cGQuery)))])]⟩) (by kernel_rfl) ?_
          refine nil_in ?_
          refine next_in ?_
          refine ret_in ?_
          refine blockK_ret ?_
          refine blockK_ret ?_
          refine thenK_ret ?_
          have h := Option.some.inj h; subst h
          exact ret1_step (v := (.d (.i .i64 8))) (by kernel_rfl) (by kernel_rfl) (by kernel_rfl)
        · clear h; intro h
          refine skip_in ?_
          refine blockK_norm ?_
          refine blockK_norm ?_
          exact next_step (s' := stiLevelOf_J0) (wk_ren [] (by kernel_rfl) (er_nil) (br_nil)) (OK_iLevelOf_J0 _ h)
    · clear h; intro h
      refine seq_in ?_
      refine seq_in ?_
      refine ops_in ?_
      refine sts_ok 2 (s' := ⟨[(18, (.d (.b (decide (p0.kind = 5))))), (19, (.d (.b (decide (p0.kind = 5))))), (10, (.d (.b (decide (p0.kind = 3))))), (11, (.d (.b (decide (p0.kind = 3))))), (5, (.d (.b (decide (p0.kind = 4))))), (6, (.d (.b (decide (p0.kind = 4))))), (4, (.d (.i .i64 p0.kind))), (3, (.ptr 1 0)), (2, (.d (.i .i64 0))), (1, (.ptr 1 0)), (0, (vGExpr p0))], [(1, [(.d (.i .i64 p0.kind)), (.d (.i .i64 p0.op)), (.d (.b p0.not_)), (.d (.i .i64 p0.value.kind)), (.d (.i .i64 p0.value.num)), (.d (.s (bs p0.value.text))), (.d (.s (bs p0.qual))), (.d (.s (bs p0.name))), (.d (.sl 10 (p0.kids.map cGExpr))), (.d (.sl 6 (p0.sub.map cGQuery)))])]⟩) (by kernel_rfl) ?_
      refine nil_in ?_
      refine next_in ?_
      refine cond_step h (by kernel_rfl) ?_ ?_
      · clear h; intro h
        refine skip_in ?_
        exact next_step (s' := stiLevelOf_J1 p0 (decide (p0.kind = 5))) (wk_ren [] (by kernel_rfl) (er_cons (vr_same (by kernel_rfl) (by kernel_rfl)) (er_cons (vr_same (by kernel_rfl) (by kernel_rfl)) (er_nil))) (br_nil)) (OK_iLevelOf_J1 p0 (decide (p0.kind = 5)) _ h)
      · clear h; intro h
        refine seq_in ?_
        refine ops_in ?_
        refine sts_ok 2 (s' := ⟨[(18, (.d (.b (decide (p0.kind = 6))))), (20, (.d (.b (decide (p0.kind = 6))))), (18, (.d (.b (decide (p0.kind = 5))))), (19, (.d (.b (decide (p0.kind = 5))))), (10, (.d (.b (decide (p0.kind = 3))))), (11, (.d (.b (decide (p0.kind = 3))))), (5, (.d (.b (decide (p0.kind = 4))))), (6, (.d (.b (decide (p0.kind = 4))))), (4, (.d (.i .i64 p0.kind))), (3, (.ptr 1 0)), (2, (.d (.i .i64 0))), (1, (.ptr 1 0)), (0, (vGExpr p0))], [(1, [(.d (.i .i64 p0.kind)), (.d (.i .i64 p0.op)), (.d (.b p0.not_)), (.d (.i .i64 p0.value.kind)), (.d (.i .i64 p0.value.num)), (.d (.s (bs p0.value.text))), (.d (.s (bs p0.qual))), (.d (.s (bs p0.name))), (.d (.sl 10 (p0.kids.map cGExpr))), (.d (.sl 6 (p0.sub.map cGQuery)))])]⟩) (by kernel_rfl) ?_
        refine nil_in ?_
        refine next_in ?_
        refine cond_step h (by kernel_rfl) ?_ ?_
        · clear h; intro h
          refine skip_in ?_
          exact next_step (s' := stiLevelOf_J1 p0 (decide (p0.kind = 6))) (wk_ren [] (by kernel_rfl) (er_cons (vr_same (by kernel_rfl) (by kernel_rfl)) (er_cons (vr_same (by kernel_rfl) (by kernel_rfl)) (er_nil))) (br_nil)) (OK_iLevelOf_J1 p0 (decide (p0.kind = 6)) _ h)
        · clear h; intro h
          refine seq_in ?_
          refine ops_in ?_
          refine sts_ok 2 (s' := ⟨[(18, (.d (.b (decide (p0.kind = 7))))), (21, (.d (.b (decide (p0.kind = 7))))), (18, (.d (.b (decide (p0.kind = 6))))), (20, (.d (.b (decide (p0.kind = 6))))), (18, (.d (.b (decide (p0.kind = 5))))), (19, (.d (.b (decide (p0.kind = 5))))), (10, (.d (.b (decide (p0.kind = 3))))), (11, (.d (.b (decide (p0.kind = 3))))), (5, (.d (.b (decide (p0.kind = 4))))), (6, (.d (.b (decide (p0.kind = 4))))), (4, (.d (.i .i64 p0.kind))), (3, (.ptr 1 0)), (2, (.d (.i .i64 0))), (1, (.ptr 1 0)), (0, (vGExpr p0))], [(1, [(.d (.i .i64 p0.kind)), (.d (.i .i64 p0.op)), (.d (.b p0.not_)), (.d (.i .i64 p0.value.kind)), (.d (.i .i64 p0.value.num)), (.d (.s (bs p0.value.text))), (.d (.s (bs p0.qual))), (.d (.s (bs p0.name))), (.d (.sl 10 (p0.kids.map cGExpr))), (.d (.sl 6 (p0.sub.map cGQuery)))])]⟩) (by kernel_rfl) ?_
          refine nil_in ?_
          refine next_in ?_
          refine cond_step h (by kernel_rfl) ?_ ?_
          · clear h; intro h
            refine skip_in ?_
            exact next_step (s' := stiLevelOf_J1 p0 (decide (p0.kind = 7))) (wk_ren [] (by kernel_rfl) (er_cons (vr_same (by kernel_rfl) (by kernel_rfl)) (er_cons (vr_same (by kernel_rfl) (by kernel_rfl)) (er_nil))) (br_nil)) (OK_iLevelOf_J1 p0 (decide (p0.kind = 7)) _ h)
          · clear h; intro h
            refine ops_in ?_
            refine sts_ok 2 (s' := ⟨[(18, (.d (.b (decide (p0.kind = 8))))), (22, (.d (.b (decide (p0.kind = 8))))), (18, (.d (.b (decide (p0.kind = 7))))), (21, (.d (.b (decide (p0.kind = 7))))), (18, (.d (.b (decide (p0.kind = 6))))), (20, (.d (.b (decide (p0.kind = 6))))), (18, (.d (.b (decide (p0.kind = 5))))), (19, (.d (.b (decide (p0.kind = 5))))), (10, (.d (.b (decide (p0.kind = 3))))), (11, (.d (.b (decide (p0.kind = 3))))), (5, (.d (.b (decide (p0.kind = 4))))), (6, (.d (.b (decide (p0.kind = 4))))), (4, (.d (.i .i64 p0.kind))), (3, (.ptr 1 0)), (2, (.d (.i .i64 0))), (1, (.ptr 1 0)), (0, (vGExpr p0))], [(1, [(.d (.i .i64 p0.kind)), (.d (.i .i64 p0.op)), (.d (.b p0.not_)), (.d (.i .i64 p0.value.kind)), (.d (.i .i64 p0.value.num)), (.d (.s (bs p0.value.text))), (.d (.s (bs p0.qual))), (.d (.s (bs p0.name))), (.d (.sl 10 (p0.kids.map cGExpr))), (.d (.sl 6 (p0.sub.map cGQuery)))])]⟩) (by kernel_rfl) ?_
            refine nil_in ?_
            exact next_step (s' := stiLevelOf_J1 p0 (decide (p0.kind = 8))) (wk_ren [] (by kernel_rfl) (er_cons (vr_same (by kernel_rfl) (by kernel_rfl)) (er_cons (vr_same (by kernel_rfl) (by kernel_rfl)) (er_nil))) (br_nil)) (OK_iLevelOf_J1 p0 (decide (p0.kind = 8)) _ h)
theorem OK_iNeeds_J0 (r : Int) (h : iNeeds_J0 = some r) : avc Try.prog aciNeeds_J0 (qiNeeds r) (stiNeeds_J0) := by
  rw [iNeeds_J0] at h
  delta aciNeeds_J0
  refine seq_in ?_
  refine ops_in ?_
  refine sts_ok 1 (s' := ⟨(4, (.d (.i .i64 5))) :: (stiNeeds_J0).env, (stiNeeds_J0).bx⟩) (by kernel_rfl) ?_
  refine nil_in ?_
  refine next_in ?_
  refine ret_in ?_
  have h := Option.some.inj h; subst h
  exact ret1_step (v := (.d (.i .i64 5))) (by kernel_rfl) (by kernel_rfl) (by kernel_rfl)
theorem OK_iNeeds (p0 : GExpr) (p1 : Int) : FOk Try.prog 130 [(vGExpr p0), (.d (.i .i64 p1))] (fun y => (.d (.i .i64 y))) (iNeeds p0 p1) := by
  intro r h
  rw [iNeeds] at h
  refine acalls_of_fn triNeeds (Nat.le_of_ble_eq_true rfl) (by simp) ?_
  show avc Try.prog aciNeeds (qiNeeds _) ⟨[(0, (vGExpr p0)), (1, (.d (.i .i64 p1)))], []⟩
  delta aciNeeds
  refine seq_in ?_
  refine ops_in ?_
  refine sts_ok 2 (s' := ⟨[(4, (.d (.i .i64 0))), (2, (.ptr 2 0)), (0, (vGExpr p0)), (1, (.d (.i .i64 p1)))], [(2, [(.d (.i .i64 p0.kind)), (.d (.i .i64 p0.op)), (.d (.b p0.not_)), (.d (.i .i64 p0.value.kind)), (.d (.i .i64 p0.value.num)), (.d (.s (bs p0.value.text))), (.d (.s (bs p0.qual))), (.d (.s (bs p0.name))), (.d (.sl 10 (p0.kids.map cGExpr))), (.d (.sl 6 (p0.sub.map cGQuery)))])]⟩) (by kernel_rfl) ?_
  refine nil_in ?_
  refine next_in ?_
  refine seq_in ?_
  refine ops_in ?_
  refine sts_ok 1 (s' := ⟨[(6, (vGExpr p0)), (4, (.d (.i .i64 0))), (2, (.ptr 2 0)), (0, (vGExpr p0)), (1, (.d (.i .i64 p1)))], [(2, [(.d (.i .i64 p0.kind)), (.d (.i .i64 p0.op)), (.d (.b p0.not_)), (.d (.i .i64 p0.value.kind)), (.d (.i .i64 p0.value.num)), (.d (.s (bs p0.value.text))), (.d (.s (bs p0.qual))), (.d (.s (bs p0.name))), (.d (.sl 10 (p0.kids.map cGExpr))), (.d (.sl 6 (p0.sub.map cGQuery)))])]⟩) (by kernel_rfl) ?_
  refine call_step (m := iLevelOf p0) (args := [(vGExpr p0)]) (v' := (fun y => (.d (.i .i64 y)))) h (OK_iLevelOf p0) (by kernel_rfl) (by kernel_rfl) (fun _ => rfl) ?_
  clear h; intro y1 h
  refine sts_ok 1 (s' := ⟨[(5, (.d (.i .i64 y1))), (7, (.d (.i .i64 y1))), (6, (vGExpr p0)), (4, (.d (.i .i64 0))), (2, (.ptr 2 0)), (0, (vGExpr p0)), (1, (.d (.i .i64 p1)))], [(2, [(.d (.i .i64 p0.kind)), (.d (.i .i64 p0.op)), (.d (.b p0.not_)), (.d (.i .i64 p0.value.kind)), (.d (.i .i64 p0.value.num)), (.d (.s (bs p0.value.text))), (.d (.s (bs p0.qual))), (.d (.s (bs p0.name))), (.d (.sl 10 (p0.kids.map cGExpr))), (.d (.sl 6 (p0.sub.map cGQuery)))])]⟩) (by kernel_rfl) ?_
  refine nil_in ?_
  refine next_in ?_
  refine seq_in ?_
  refine seq_in ?_
  refine ops_in ?_
  refine sts_ok 3 (s' := ⟨[(10, (.d (.b (decide (p1 < 0))))), (9, (.d (.b (decide (p1 < 0))))), (8, (.d (.i .i64 p1))), (5, (.d (.i .i64 y1))), (7, (.d (.i .i64 y1))), (6, (vGExpr p0)), (4, (.d (.i .i64 0))), (2, (.ptr 2 0)), (0, (vGExpr p0)), (1, (.d (.i .i64 p1)))], [(2, [(.d (.i .i64 p0.kind)), (.d (.i .i64 p0.op)), (.d (.b p0.not_)), (.d (.i .i64 p0.value.kind)), (.d (.i .i64 p0.value.num)), (.d (.s (bs p0.value.text))), (.d (.s (bs p0.qual))), (.d (.s (bs p0.name))), (.d (.sl 10 (p0.kids.map cGExpr))), (.d (.sl 6 (p0.sub.map cGQuery)))])]⟩) (by kernel_rfl) ?_
  refine gp_step (p := true) (b := (decide (p1 < 0))) (v' := (.d (.i .i64 p1))) (by kernel_rfl) rfl rfl (fun hc => vop_val1 (by kernel_rfl) (by kernel_rfl)) ?_
  refine gp_step (p := true) (b := (decide (p1 < 0))) (v' := (.ptr 2 8)) (by kernel_rfl) rfl rfl (fun hc => vop_val1 (by kernel_rfl) (by kernel_rfl)) ?_
  refine gp_step (p := true) (b := (decide (p1 < 0))) (v' := (.d (.sl 10 (p0.kids.map cGExpr)))) (by kernel_rfl) rfl rfl (fun hc => vop_val1 (Eq.trans (b := ([(true && ((decide (p1 < 0)) == false))] : List Bool).all id) (by kernel_rfl) (all_c hc rfl)) (by kernel_rfl)) ?_
  refine gp_step (p := true) (b := (decide (p1 < 0))) (v' := (.d (.i .i64 (p0.kids.length : Int)))) (by kernel_rfl) rfl rfl (fun hc => vop_len (sz := 10) (l := p0.kids) (f := cGExpr) (Eq.trans (b := ([(true && ((decide (p1 < 0)) == false))] : List Bool).all id) (by kernel_rfl) (all_c hc rfl)) (by kernel_rfl)) ?_
  refine gp_step (p := true) (b := (decide (p1 < 0))) (v' := (.d (.b (decide ((p0.kids.length : Int) ≤ p1))))) (by kernel_rfl) rfl rfl (fun hc => vop_val1 (Eq.trans (b := ([(true && ((decide (p1 < 0)) == false)), (true && ((decide (p1 < 0)) == false))] : List Bool).all id) (by kernel_rfl) (all_c hc (all_c hc rfl))) (by kernel_rfl)) ?_
  refine p_step (v' := (.d (.b (if (decide (p1 < 0)) = true then true else (decide ((p0.kids.length : Int) ≤ p1)))))) rfl rfl (vop_pick (b := (decide (p1 < 0))) (p := true) (u := true) (q := (true && ((decide (p1 < 0)) == false))) (v := (decide ((p0.kids.length : Int) ≤ p1))) (by kernel_rfl) (by kernel_rfl) (by kernel_rfl) (by kernel_rfl) (fun _ => rfl) (fun hb => gc_f rfl hb)) ?_
  refine sts_ok 1 (s' := ⟨[(17, (.d (.b (if (decide (p1 < 0)) = true then true else (decide ((p0.kids.length : Int) ≤ p1)))))), (16, (.d (.b (if (decide (p1 < 0)) = true then true else (decide ((p0.kids.length : Int) ≤ p1)))))), (15, (.ite (true && ((decide (p1 < 0)) == false)) (.d (.b (decide ((p0.kids.length : Int) ≤ p1)))))), (14, (.ite (true && ((decide (p1 < 0)) == false)) (.d (.i .i64 (p0.kids.length : Int))))), (13, (.ite (true && ((decide (p1 < 0)) == false)) (.d (.sl 10 (p0.kids.map cGExpr))))), (12, (.ite (true && ((decide (p1 < 0)) == false)) (.ptr 2 8))), (11, (.ite (true && ((decide (p1 < 0)) == false)) (.d (.i .i64 p1)))), (10, (.d (.b (decide (p1 < 0))))), (9, (.d (.b (decide (p1 < 0))))), (8, (.d (.i .i64 p1))), (5, (.d (.i .i64 y1))), (7, (.d (.i .i64 y1))), (6, (vGExpr p0)), (4, (.d (.i .i64 0))), (2, (.ptr 2 0)), (0, (vGExpr p0)), (1, (.d (.i .i64 p1)))], [(2, [(.d (.i .i64 p0.kind)), (.d (.i .i64 p0.op)), (.d (.b p0.not_)), (.d (.i .i64 p0.value.kind)), (.d (.i .i64 p0.value.num)), (.d (.s (bs p0.value.text))), (.d (.s (bs p0.qual))), (.d (.s (bs p0.name))), (.d (.sl 10 (p0.kids.map cGExpr))), (.d (.sl 6 (p0.sub.map cGQuery)))])]⟩) (by kernel_rfl) ?_
  refine gp_step (p := true) (b := (if (decide (p1 < 0)) = true then true else (decide ((p0.kids.length : Int) ≤ p1)))) (v' := (.d (.i .i64 y1))) (by kernel_rfl) rfl rfl (fun hc => vop_val1 (by kernel_rfl) (by kernel_rfl)) ?_
  refine gp_step (p := true) (b := (if (decide (p1 < 0)) = true then true else (decide ((p0.kids.length : Int) ≤ p1)))) (v' := (.d (.b (decide (y1 = 0))))) (by kernel_rfl) rfl rfl (fun hc => vop_val1 (Eq.trans (b := ([(true && ((if (decide (p1 < 0)) = true then true else (decide ((p0.kids.length : Int) ≤ p1))) == false))] : List Bool).all id) (by kernel_rfl) (all_c hc rfl)) (by kernel_rfl)) ?_
  refine p_step (v' := (.d (.b (if (if (decide (p1 < 0)) = true then true else (decide ((p0.kids.length : Int) ≤ p1))) = true then true else (decide (y1 = 0)))))) rfl rfl (vop_pick (b := (if (decide (p1 < 0)) = true then true else (decide ((p0.kids.length : Int) ≤ p1)))) (p := true) (u := true) (q := (true && ((if (decide (p1 < 0)) = true then true else (decide ((p0.kids.length : Int) ≤ p1))) == false))) (v := (decide (y1 = 0))) (by kernel_rfl) (by kernel_rfl) (by kernel_rfl) (by kernel_rfl) (fun _ => rfl) (fun hb => gc_f rfl hb)) ?_
  refine sts_ok 1 (s' := ⟨[(21, (.d (.b (if (if (decide (p1 < 0)) = true then true else (decide ((p0.kids.length : Int) ≤ p1))) = true then true else (decide (y1 = 0)))))), (20, (.d (.b (if (if (decide (p1 < 0)) = true then true else (decide ((p0.kids.length : Int) ≤ p1))) = true then true else (decide (y1 = 0)))))), (19, (.ite (true && ((if (decide (p1 < 0)) = true then true else (decide ((p0.kids.length : Int) ≤ p1))) == false)) (.d (.b (decide (y1 = 0)))))), (18, (.ite (true && ((if (decide (p1 < 0)) = true then true else (decide ((p0.kids.length : Int) ≤ p1))) == false)) (.d (.i .i64 y1)))), (17, (.d (.b (if (decide (p1 < 0)) = true then true else (decide ((p0.kids.length : Int) ≤ p1)))))), (16, (.d (.b (if (decide (p1 < 0)) = true then true else (decide ((p0.kids.length : Int) ≤ p1)))))), (15, (.ite (true && ((decide (p1 < 0)) == false)) (.d (.b (decide ((p0.kids.length : Int) ≤ p1)))))), (14, (.ite (true && ((decide (p1 < 0)) == false)) (.d (.i .i64 (p0.kids.length : Int))))), (13, (.ite (true && ((decide (p1 < 0)) == false)) (.d (.sl 10 (p0.kids.map cGExpr))))), (12, (.ite (true && ((decide (p1 < 0)) == false)) (.ptr 2 8))), (11, (.ite (true && ((decide (p1 < 0)) == false)) (.d (.i .i64 p1)))), (10, (.d (.b (decide (p1 < 0))))), (9, (.d (.b (decide (p1 < 0))))), (8, (.d (.i .i64 p1))), (5, (.d (.i .i64 y1))), (7, (.d (.i .i64 y1))), (6, (vGExpr p0)), (4, (.d (.i .i64 0))), (2, (.ptr 2 0)), (0, (vGExpr p0)), (1, (.d (.i .i64 p1)))], [(2, [(.d (.i .i64 p0.kind)), (.d (.i .i64 p0.op)), (.d (.b p0.not_)), (.d (.i .i64 p0.value.kind)), (.d (.i .i64 p0.value.num)), (.d (.s (bs p0.value.text))), (.d (.s (bs p0.qual))), (.d (.s (bs p0.name))), (.d (.sl 10 (p0.kids.map cGExpr))), (.d (.sl 6 (p0.sub.map cGQuery)))])]⟩) (by kernel_rfl) ?_
  refine gp_step (p := true) (b := (if (if (decide (p1 < 0)) = true then true else (decide ((p0.kids.length : Int) ≤ p1))) = true then true else (decide (y1 = 0)))) (v' := (.d (.i .i64 y1))) (by kernel_rfl) rfl rfl (fun hc => vop_val1 (by kernel_rfl) (by kernel_rfl)) ?_
  refine gp_step (p := true) (b := (if (if (decide (p1 < 0)) = true then true else (decide ((p0.kids.length : Int) ≤ p1))) = true then true else (decide (y1 = 0)))) (v' := (.d (.b (decide (y1 = 9))))) (by kernel_rfl) rfl rfl (fun hc => vop_val1 (Eq.trans (b := ([(true && ((if (if (decide (p1 < 0)) = true then true else (decide ((p0.kids.length : Int) ≤ p1))) = true then true else (decide (y1 = 0))) == false))] : List Bool).all id) (by kernel_rfl) (all_c hc rfl)) (by kernel_rfl)) ?_
  refine p_step (v' := (.d (.b (if (if (if (decide (p1 < 0)) = true then true else (decide ((p0.kids.length : Int) ≤ p1))) = true then true else (decide (y1 = 0))) = true then true else (decide (y1 = 9)))))) rfl rfl (vop_pick (b := (if (if (decide (p1 < 0)) = true then true else (decide ((p0.kids.length : Int) ≤ p1))) = true then true else (decide (y1 = 0)))) (p := true) (u := true) (q := (true && ((if (if (decide (p1 < 0)) = true then true else (decide ((p0.kids.length : Int) ≤ p1))) = true then true else (decide (y1 = 0))) == false))) (v := (decide (y1 = 9))) (by kernel_rfl) (by kernel_rfl) (by kernel_rfl) (by kernel_rfl) (fun _ => rfl) (fun hb => gc_f rfl hb)) ?_
  refine nil_in ?_
  refine next_in ?_
  refine cond_step h (by kernel_rfl) ?_ ?_
  · clear h; intro h
    refine seq_in ?_
    refine ops_in ?_
    refine sts_ok 1 (s' := ⟨[(4, (.d (.i .i64 0))), (24, (.d (.b (if (if (if (decide (p1 < 0)) = true then true else (decide ((p0.kids.length : Int) ≤ p1))) = true then true else (decide (y1 = 0))) = true then true else (decide (y1 = 9)))))), (23, (.ite (true && ((if (if (decide (p1 < 0)) = true then true else (decide ((p0.kids.length : Int) ≤ p1))) = true then true else (decide (y1 = 0))) == false)) (.d (.b (decide (y1 = 9)))))), (22, (.ite (true && ((if (if (decide (p1 < 0)) = true then true else (decide ((p0.kids.length : Int) ≤ p1))) = true then true else (decide (y1 = 0))) == false)) (.d (.i .i64 y1)))), (21, (.d (.b (if (if (decide (p1 < 0)) = true then true else (decide ((p0.kids.length : Int) ≤ p1))) = true then true else (decide (y1 = 0)))))), (20, (.d (.b (if (if (decide (p1 < 0)) = true then true else (decide ((p0.kids.length : Int) ≤ p1))) = true then true else (decide (y1 = 0)))))), (19, (.ite (true && ((if (decide (p1 < 0)) = true then true else (decide ((p0.kids.length : Int) ≤ p1))) == false)) (.d (.b (decide (y1 = 0)))))), (18, (.ite (true && ((if (decide (p1 < 0)) = true then true else (decide ((p0.kids.length : Int) ≤ p1))) == false)) (.d (.i .i64 y1)))), (17, (.d (.b (if (decide (p1 < 0)) = true then true else (decide ((p0.kids.length : Int) ≤ p1)))))), (16, (.d (.b (if (decide (p1 < 0)) = true then true else (decide ((p0.kids.length : Int) ≤ p1)))))), (15, (.ite (true && ((decide (p1 < 0)) == false)) (.d (.b (decide ((p0.kids.length : Int) ≤ p1)))))), (14, (.ite (true && ((decide (p1 < 0)) == false)) (.d (.i .i64 (p0.kids.length : Int))))), (13, (.ite (true && ((decide (p1 < 0)) == false)) (.d (.sl 10 (p0.kids.map cGExpr))))), (12, (.ite (true && ((decide (p1 < 0)) == false)) (.ptr 2 8))), (11, (.ite (true && ((decide (p1 < 0)) == false)) (.d (.i .i64 p1)))), (10, (.d (.b (decide (p1 < 0))))), (9, (.d (.b (decide (p1 < 0))))), (8, (.d (.i .i64 p1))), (5, (.d (.i .i64 y1))), (7, (.d (.i .i64 y1))), (6, (vGExpr p0)), (4, (.d (.i .i64 0))), (2, (.ptr 2 0)), (0, (vGExpr p0)), (1, (.d (.i .i64 p1)))], [(2, [(.d (.i .i64 p0.kind)), (.d (.i .i64 p0.op)), (.d (.b p0.not_)), (.d (.i .i64 p0.value.kind)), (.d (.i .i64 p0.value.num)), (.d (.s (bs p0.value.text))), (.d (.s (bs p0.qual))), (.d (.s (bs p0.name))), (.d (.sl 10 (p0.kids.map cGExpr))), (.d (.sl 6 (p0.sub.map cGQuery)))])]⟩) (by kernel_rfl) ?_
    refine nil_in ?_
    refine next_in ?_
    refine ret_in ?_
    refine thenK_ret ?_
    have h := Option.some.inj h; subst h
    exact ret1_step (v := (.d (.i .i64 0))) (by kernel_rfl) (by kernel_rfl) (by kernel_rfl)
  · clear h; intro h
    refine skip_in ?_
    refine next_in ?_
    refine seq_in ?_
    refine seq_in ?_
    refine ops_in ?_
    refine sts_ok 2 (s' := ⟨[(26, (.d (.i .i64 p0.kind))), (25, (.ptr 2 0)), (24, (.d (.b (if (if (if (decide (p1 < 0)) = true then true else (decide ((p0.kids.length : Int) ≤ p1))) = true then true else (decide (y1 = 0))) = true then true else (decide (y1 = 9)))))), (23, (.ite (true && ((if (if (decide (p1 < 0)) = true then true else (decide ((p0.kids.length : Int) ≤ p1))) = true then true else (decide (y1 = 0))) == false)) (.d (.b (decide (y1 = 9)))))), (22, (.ite (true && ((if (if (decide (p1 < 0)) = true then true else (decide ((p0.kids.length : Int) ≤ p1))) = true then true else (decide (y1 = 0))) == false)) (.d (.i .i64 y1)))), (21, (.d (.b (if (if (decide (p1 < 0)) = true then true else (decide ((p0.kids.length : Int) ≤ p1))) = true then true else (decide (y1 = 0)))))), (20, (.d (.b (if (if (decide (p1 < 0)) = true then true else (decide ((p0.kids.length : Int) ≤ p1))) = true then true else (decide (y1 = 0)))))), (19, (.ite (true && ((if (decide (p1 < 0)) = true then true else (decide ((p0.kids.length : Int) ≤ p1))) == false)) (.d (.b (decide (y1 = 0)))))), (18, (.ite (true && ((if (decide (p1 < 0)) = true then true else (decide ((p0.kids.length : Int) ≤ p1))) == false)) (.d (.i .i64 y1)))), (17, (.d (.b (if (decide (p1 < 0)) = true then true else (decide ((p0.kids.length : Int) ≤ p1)))))), (16, (.d (.b (if (decide (p1 < 0)) = true then true else (decide ((p0.kids.length : Int) ≤ p1)))))), (15, (.ite (true && ((decide (p1 < 0)) == false)) (.d (.b (decide ((p0.kids.length : Int) ≤ p1)))))), (14, (.ite (true && ((decide (p1 < 0)) == false)) (.d (.i .i64 (p0.kids.length : Int))))), (13, (.ite (true && ((decide (p1 < 0)) == false)) (.d (.sl 10 (p0.kids.map cGExpr))))), (12, (.ite (true && ((decide (p1 < 0)) == false)) (.ptr 2 8))), (11, (.ite (true && ((decide (p1 < 0)) == false)) (.d (.i .i64 p1)))), (10, (.d (.b (decide (p1 < 0))))), (9, (.d (.b (decide (p1 < 0))))), (8, (.d (.i .i64 p1))), (5, (.d (.i .i64 y1))), (7, (.d (.i .i64 y1))), (6, (vGExpr p0)), (4, (.d (.i .i64 0))), (2, (.ptr 2 0)), (0, (vGExpr p0)), (1, (.d (.i .i64 p1)))], [(2, [(.d (.i .i64 p0.kind)), (.d (.i .i64 p0.op)), (.d (.b p0.not_)), (.d (.i .i64 p0.value.kind)), (.d (.i .i64 p0.value.num)), (.d (.s (bs p0.value.text))), (.d (.s (bs p0.qual))), (.d (.s (bs p0.name))), (.d (.sl 10 (p0.kids.map cGExpr))), (.d (.sl 6 (p0.sub.map cGQuery)))])]⟩) (by kernel_rfl) ?_
    refine nil_in ?_
    refine next_in ?_
    refine block_in ?_
    refine seq_in ?_
    refine ops_in ?_
    refine sts_ok 2 (s' := ⟨[(27, (.d (.b (decide (p0.kind = 4))))), (28, (.d (.b (decide (p0.kind = 4))))), (26, (.d (.i .i64 p0.kind))), (25, (.ptr 2 0)), (24, (.d (.b (if (if (if (decide (p1 < 0)) = true then true else (decide ((p0.kids.length : Int) ≤ p1))) = true then true else (decide (y1 = 0))) = true then true else (decide (y1 = 9)))))), (23, (.ite (true && ((if (if (decide (p1 < 0)) = true then true else (decide ((p0.kids.length : Int) ≤ p1))) = true then true else (decide (y1 = 0))) == false)) (.d (.b (decide (y1 = 9)))))), (22, (.ite (true && ((if (if (decide (p1 < 0)) = true then true else (decide ((p0.kids.length : Int) ≤ p1))) = true then true else (decide (y1 = 0))) == false)) (.d (.i .i64 y1)))), (21, (.d (.b (if (if (decide (p1 < 0)) = true then true else (decide ((p0.kids.length : Int) ≤ p1))) = true then true else (decide (y1 = 0)))))), (20, (.d (.b (if (if (decide (p1 < 0)) = true then true else (decide ((p0.kids.length : Int) ≤ p1))) = true then true else (decide (y1 = 0)))))), (19, (.ite (true && ((if (decide (p1 < 0)) = true then true else (decide ((p0.kids.length : Int) ≤ p1))) == false)) (.d (.b (decide (y1 = 0)))))), (18, (.ite (true && ((if (decide (p1 < 0)) = true then true else (decide ((p0.kids.length : Int) ≤ p1))) == false)) (.d (.i .i64 y1)))), (17, (.d (.b (if (decide (p1 < 0)) = true then true else (decide ((p0.kids.length : Int) ≤ p1)))))), (16, (.d (.b (if (decide (p1 < 0)) = true then true else (decide ((p0.kids.length : Int) ≤ p1)))))), (15, (.ite (true && ((decide (p1 < 0)) == false)) (.d (.b (decide ((p0.kids.length : Int) ≤ p1)))))), (14, (.ite (true && ((decide (p1 < 0)) == false)) (.d (.i .i64 (p0.kids.length : Int))))), (13, (.ite (true && ((decide (p1 < 0)) == false)) (.d (.sl 10 (p0.kids.map cGExpr))))), (12, (.ite (true && ((decide (p1 < 0)) == false)) (.ptr 2 8))), (11, (.ite (true && ((decide (p1 < 0)) == false)) (.d (.i .i64 p1)))), (10, (.d (.b (decide (p1 < 0))))), (9, (.d (.b (decide (p1 < 0))))), (8, (.d (.i .i64 p1))), (5, (.d (.i .i64 y1))), (7, (.d (.i .i64 y1))), (6, (vGExpr p0)), (4, (.d (.i .i64 0))), (2, (.ptr 2 0)), (0, (vGExpr p0)), (1, (.d (.i .i64 p1)))], [(2, [(.d (.i .i64 p0.kind)), (.d (.i .i64 p0.op)), (.d (.b p0.not_)), (.d (.i .i64 p0.value.kind)), (.d (.i .i64 p0.value.num)), (.d (.s (bs p0.value.text))), (.d (.s (bs p0.qual))), (.d (.s (bs p0.name))), (.d (.sl 10 (p0.kids.map cGExpr))), (.d (.sl 6 (p0.sub.map cGQuery)))])]⟩) (by kernel_rfl) ?_
    refine nil_in ?_
    refine next_in ?_
    refine cond_step h (by kernel_rfl) ?_ ?_
    · clear h; intro h
      refine seq_in ?_
      refine seq_in ?_
      refine ops_in ?_
      refine sts_ok 2 (s' := ⟨[(30, (.d (.b (decide (y1 = 4))))), (29, (.d (.i .i64 y1))), (27, (.d (.b (decide (p0.kind = 4))))), (28, (.d (.b (decide (p0.kind = 4))))), (26, (.d (.i .i64 p0.kind))), (25, (.ptr 2 0)), (24, (.d (.b (if (if (if (decide (p1 < 0)) = true then true else (decide ((p0.kids.length : Int) ≤ p1))) = true then true else (decide (y1 = 0))) = true then true else (decide (y1 = 9)))))), (23, (.ite (true && ((if (if (decide (p1 < 0)) = true then true else (decide ((p0.kids.length : Int) ≤ p1))) = true then true else (decide (y1 = 0))) == false)) (.d (.b (decide (y1 = 9)))))), (22, (.ite (true && ((if (if (decide (p1 < 0)) = true then true else (decide ((p0.kids.length : Int) ≤ p1))) = true then true else (decide (y1 = 0))) == false)) (.d (.i .i64 y1)))), (21, (.d (.b (if (if (decide (p1 < 0)) = true then true else (decide ((p0.kids.length : Int) ≤ p1))) = true then true else (decide (y1 = 0)))))), (20, (.d (.b (if (if (decide (p1 < 0)) = true then true else (decide ((p0.kids.length : Int) ≤ p1))) = true then true else (decide (y1 = 0)))))), (19, (.ite (true && ((if (decide (p1 < 0)) = true then true else (decide ((p0.kids.length : Int) ≤ p1))) == false)) (.d (.b (decide (y1 = 0)))))), (18, (.ite (true && ((if (decide (p1 < 0)) = true then true else (decide ((p0.kids.length : Int) ≤ p1))) == false)) (.d (.i .i64 y1)))), (17, (.d (.b (if (decide (p1 < 0)) = true then true else (decide ((p0.kids.length : Int) ≤ p1)))))), (16, (.d (.b (if (decide (p1 < 0)) = true then true else (decide ((p0.kids.length : Int) ≤ p1)))))), (15, (.ite (true && ((decide (p1 < 0)) == false)) (.d (.b (decide ((p0.kids.length : Int) ≤ p1)))))), (14, (.ite (true && ((decide (p1 < 0)) == false)) (.d (.i .i64 (p0.kids.length : Int))))), (13, (.ite (true && ((decide (p1 < 0)) == false)) (.d (.sl 10 (p0.kids.map cGExpr))))), (12, (.ite (true && ((decide (p1 < 0)) == false)) (.ptr 2 8))), (11, (.ite (true && ((decide (p1 < 0)) == false)) (.d (.i .i64 p1)))), (10, (.d (.b (decide (p1 < 0))))), (9, (.d (.b (decide (p1 < 0))))), (8, (.d (.i .i64 p1))), (5, (.d (.i .i64 y1))), (7, (.d (.i .i64 y1))), (6, (vGExpr p0)), (4, (.d (.i .i64 0))), (2, (.ptr 2 0)), (0, (vGExpr p0)), (1, (.d (.i .i64 p1)))], [(2, [(.d (.i .i64 p0.kind)), (.d (.i .i64 p0.op)), (.d (.b p0.not_)), (.d (.i .i64 p0.value.kind)), (.d (.i .i64 p0.value.num)), (.d (.s (bs p0.value.text))), (.d (.s (bs p0.qual))), (.d (.s (bs p0.name))), (.d (.sl 10 (p0.kids.map cGExpr))), (.d (.sl 6 (p0.sub.map cGQuery)))])]⟩) (by kernel_rfl) ?_
      refine nil_in ?_
      refine next_in ?_
      refine cond_step h (by kernel_rfl) ?_ ?_
      · clear h; intro h
        refine seq_in ?_
        refine ops_in ?_
        refine sts_ok 1 (s' := ⟨[(4, (.d (.i .i64 5))), (30, (.d (.b (decide (y1 = 4))))), (29, (.d (.i .i64 y1))), (27, (.d (.b (decide (p0.kind = 4))))), (28, (.d (.b (decide (p0.kind = 4))))), (26, (.d (.i .i64 p0.kind))), (25, (.ptr 2 0)), (24, (.d (.b (if (if (if (decide (p1 < 0)) = true then true else (decide ((p0.kids.length : Int) ≤ p1))) = true then true else (decide (y1 = 0))) = true then true else (decide (y1 = 9)))))), (23, (.ite (true && ((if (if (decide (p1 < 0)) = true then true else (decide ((p0.kids.length : Int) ≤ p1))) = true then true else (decide (y1 = 0))) == false)) (.d (.b (decide (y1 = 9)))))), (22, (.ite (true && ((if (if (decide (p1 < 0)) = true then true else (decide ((p0.kids.length : Int) ≤ p1))) = true then true else (decide (y1 = 0))) == false)) (.d (.i .i64 y1)))), (21, (.d (.b (if (if (decide (p1 < 0)) = true then true else (decide ((p0.kids.length : Int) ≤ p1))) = true then true else (decide (y1 = 0)))))), (20, (.d (.b (if (if (decide (p1 < 0)) = true then true else (decide ((p0.kids.length : Int) ≤ p1))) = true then true else (decide (y1 = 0)))))), (19, (.ite (true && ((if (decide (p1 < 0)) = true then true else (decide ((p0.kids.length : Int) ≤ p1))) == false)) (.d (.b (decide (y1 = 0)))))), (18, (.ite (true && ((if (decide (p1 < 0)) = true then true else (decide ((p0.kids.length : Int) ≤ p1))) == false)) (.d (.i .i64 y1)))), (17, (.d (.b (if (decide (p1 < 0)) = true then true else (decide ((p0.kids.length : Int) ≤ p1)))))), (16, (.d (.b (if (decide (p1 < 0)) = true then true else (decide ((p0.kids.length : Int) ≤ p1)))))), (15, (.ite (true && ((decide (p1 < 0)) == false)) (.d (.b (decide ((p0.kids.length : Int) ≤ p1)))))), (14, (.ite (true && ((decide (p1 < 0)) == false)) (.d (.i .i64 (p0.kids.length : Int))))), (13, (.ite (true && ((decide (p1 < 0)) == false)) (.d (.sl 10 (p0.kids.map cGExpr))))), (12, (.ite (true && ((decide (p1 < 0)) == false)) (.ptr 2 8))), (11, (.ite (true && ((decide (p1 < 0)) == false)) (.d (.i .i64 p1)))), (10, (.d (.b (decide (p1 < 0))))), (9, (.d (.b (decide (p1 < 0))))), (8, (.d (.i .i64 p1))), (5, (.d (.i .i64 y1))), (7, (.d (.i .i64 y1))), (6, (vGExpr p0)), (4, (.d (.i .i64 0))), (2, (.ptr 2 0)), (0, (vGExpr p0)), (1, (.d (.i .i64 p1)))], [(2, [(.d (.i .i64 p0.kind)), (.d (.i .i64 p0.op)), (.d (.b p0.not_)), (.d (.i .i64 p0.value.kind)), (.d (.i .i64 p0.value.num)), (.d (.s (bs p0.value.text))), (.d (.s (bs p0.qual))), (.d (.s (bs p0.name))), (.d (.sl 10 (p0.kids.map cGExpr))), (.d (.sl 6 (p0.sub.map cGQuery)))])]⟩) (by kernel_rfl) ?_
        refine nil_in ?_
        refine next_in ?_
        refine ret_in ?_
        refine thenK_ret ?_
        refine blockK_ret ?_
        refine thenK_ret ?_
        have h := Option.some.inj h; subst h
        exact ret1_step (v := (.d (.i .i64 5))) (by kernel_rfl) (by kernel_rfl) (by kernel_rfl)
      · clear h; intro h
        refine skip_in ?_
        refine next_in ?_
        refine seq_in ?_
        refine ops_in ?_
        refine sts_ok 5 (s' := ⟨[(4, (.d (.i .i64 (IntKind.wrap .i64 (y1 + (if 1 < p1 then 1 else p1)))))), (34, (.d (.i .i64 (IntKind.wrap .i64 (y1 + (if 1 < p1 then 1 else p1)))))), (33, (.d (.i .i64 (if 1 < p1 then 1 else p1)))), (32, (.d (.i .i64 p1))), (31, (.d (.i .i64 y1))), (30, (.d (.b (decide (y1 = 4))))), (29, (.d (.i .i64 y1))), (27, (.d (.b (decide (p0.kind = 4))))), (28, (.d (.b (decide (p0.kind = 4))))), (26, (.d (.i .i64 p0.kind))), (25, (.ptr 2 0)), (24, (.d (.b (if (if (if (decide (p1 < 0)) = true then true else (decide ((p0.kids.length : Int) ≤ p1))) = true then true else (decide (y1 = 0))) = true then true else (decide (y1 = 9)))))), (23, (.ite (true && ((if (if (decide (p1 < 0)) = true then true else (decide ((p0.kids.length : Int) ≤ p1))) = true then true else (decide (y1 = 0))) == false)) (.d (.b (decide (y1 = 9)))))), (22, (.ite (true && ((if (if (decide (p1 < 0)) = true then true else (decide ((p0.kids.length : Int) ≤ p1))) = true then true else (decide (y1 = 0))) == false)) (.d (.i .i64 y1)))), (21, (.d (.b (if (if (decide (p1 < 0)) = true then true else (decide ((p0.kids.length : Int) ≤ p1))) = true then true else (decide (y1 = 0)))))), (20, (.d (.b (if (if (decide (p1 < 0)) = true then true else (decide ((p0.kids.length : Int) ≤ p1))) = true then true else (decide (y1 = 0)))))), (19, (.ite (true && ((if (decide (p1 < 0)) = true then true else (decide ((p0.kids.length : Int) ≤ p1))) == false)) (.d (.b (decide (y1 = 0)))))), (18, (.ite (true && ((if (decide (p1 < 0)) = true then true else (decide ((p0.kids.length : Int) ≤ p1))) == false)) (.d (.i .i64 y1)))), (17, (.d (.b (if (decide (p1 < 0)) = true then true else (decide ((p0.kids.length : Int) ≤ p1)))))), (16, (.d (.b (if (decide (p1 < 0)) = true then true else (decide ((p0.kids.length : Int) ≤ p1)))))), (15, (.ite (true && ((decide (p1 < 0)) == false)) (.d (.b (decide ((p0.kids.length : Int) ≤ p1)))))), (14, (.ite (true && ((decide (p1 < 0)) == false)) (.d (.i .i64 (p0.kids.length : Int))))), (13, (.ite (true && ((decide (p1 < 0)) == false)) (.d (.sl 10 (p0.kids.map cGExpr))))), (12, (.ite (true && ((decide (p1 < 0)) == false)) (.ptr 2 8))), (11, (.ite (true && ((decide (p1 < 0)) == false)) (.d (.i .i64 p1)))), (10, (.d (.b (decide (p1 < 0))))), (9, (.d (.b (decide (p1 < 0))))), (8, (.d (.i .i64 p1))), (5, (.d (.i .i64 y1))), (7, (.d (.i .i64 y1))), (6, (vGExpr p0)), (4, (.d (.i .i64 0))), (2, (.ptr 2 0)), (0, (vGExpr p0)), (1, (.d (.i .i64 p1)))], [(2, [(.d (.i .i64 p0.kind)), (.d (.i .i64 p0.op)), (.d (.b p0.not_)), (.d (.i .i64 p0.value.kind)), (.d (.i .i64 p0.value.num)), (.d (.s (bs p0.value.text))), (.d (.s (bs p0.qual))), (.d (.s (bs p0.name))), (.d (.sl 10 (p0.kids.map cGExpr))), (.d (.sl 6 (p0.sub.map cGQuery)))])]⟩) (by kernel_rfl) ?_
        refine nil_in ?_
        refine next_in ?_
        refine ret_in ?_
        refine blockK_ret ?_
        refine thenK_ret ?_
        have h := Option.some.inj h; subst h
        exact ret1_step (v := (.d (.i .i64 (IntKind.wrap .i64 (y1 + (if 1 < p1 then 1 else p1)))))) (by kernel_rfl) (by kernel_rfl) (by kernel_rfl)
    · clear h; intro h
      refine seq_in ?_
      refine ops_in ?_
      refine sts_ok 2 (s' := ⟨[(35, (.d (.b (decide (p0.kind = 3))))), (36, (.d (.b (decide (p0.kind = 3))))), (27, (.d (.b (decide (p0.kind = 4))))), (28, (.d (.b (decide (p0.kind = 4))))), (26, (.d (.i .i64 p0.kind))), (25, (.ptr 2 0)), (24, (.d (.b (if (if (if (decide (p1 < 0)) = true then true else (decide ((p0.kids.length : Int) ≤ p1))) = true then true else (decide (y1 = 0))) = true then true else (decide (y1 = 9)))))), (23, (.ite (true && ((if (if (decide (p1 < 0)) = true then true else (decide ((p0.kids.length : Int) ≤ p1))) = true then true else (decide (y1 = 0))) == false)) (.d (.b (decide (y1 = 9)))))), (22, (.ite (true && ((if (if (decide (p1 < 0)) = true then true else (decide ((p0.kids.length : Int) ≤ p1))) = true then true else (decide (y1 = 0))) == false)) (.d (.i .i64 y1)))), (21, (.d (.b (if (if (decide (p1 < 0)) = true then true else (decide ((p0.kids.length : Int) ≤ p1))) = true then true else (decide (y1 = 0)))))), (20, (.d (.b (if (if (decide (p1 < 0)) = true then true else (decide ((p0.kids.length : Int) ≤ p1))) = true then true else (decide (y1 = 0)))))), (19, (.ite (true && ((if (decide (p1 < 0)) = true then true else (decide ((p0.kids.length : Int) ≤ p1))) == false)) (.d (.b (decide (y1 = 0)))))), (18, (.ite (true && ((if (decide (p1 < 0)) = true then true else (decide ((p0.kids.length : Int) ≤ p1))) == false)) (.d (.i .i64 y1)))), (17, (.d (.b (if (decide (p1 < 0)) = true then true else (decide ((p0.kids.length : Int) ≤ p1)))))), (16, (.d (.b (if (decide (p1 < 0)) = true then true else (decide ((p0.kids.length : Int) ≤ p1)))))), (15, (.ite (true && ((decide (p1 < 0)) == false)) (.d (.b (decide ((p0.kids.length : Int) ≤ p1)))))), (14, (.ite (true && ((decide (p1 < 0)) == false)) (.d (.i .i64 (p0.kids.length : Int))))), (13, (.ite (true && ((decide (p1 < 0)) == false)) (.d (.sl 10 (p0.kids.map cGExpr))))), (12, (.ite (true && ((decide (p1 < 0)) == false)) (.ptr 2 8))), (11, (.ite (true && ((decide (p1 < 0)) == false)) (.d (.i .i64 p1)))), (10, (.d (.b (decide (p1 < 0))))), (9, (.d (.b (decide (p1 < 0))))), (8, (.d (.i .i64 p1))), (5, (.d (.i .i64 y1))), (7, (.d (.i .i64 y1))), (6, (vGExpr p0)), (4, (.d (.i .i64 0))), (2, (.ptr 2 0)), (0, (vGExpr p0)), (1, (.d (.i .i64 p1)))], [(2, [(.d (.i .i64 p0.kind)), (.d (.i .i64 p0.op)), (.d (.b p0.not_)), (.d (.i .i64 p0.value.kind)), (.d (.i .i64 p0.value.num)), (.d (.s (bs p0.value.text))), (.d (.s (bs p0.qual))), (.d (.s (bs p0.name))), (.d (.sl 10 (p0.kids.map cGExpr))), (.d (.sl 6 (p0.sub.map cGQuery)))])]⟩) (by kernel_rfl) ?_
      refine nil_in ?_
      refine next_in ?_
      refine cond_step h (by kernel_rfl) ?_ ?_
      · clear h; intro h
        refine seq_in ?_
        refine ops_in ?_
        refine sts_ok 2 (s' := ⟨[(4, (.d (.i .i64 y1))), (37, (.d (.i .i64 y1))), (35, (.d (.b (decide (p0.kind = 3))))), (36, (.d (.b (decide (p0.kind = 3))))), (27, (.d (.b (decide (p0.kind = 4))))), (28, (.d (.b (decide (p0.kind = 4))))), (26, (.d (.i .i64 p0.kind))), (25, (.ptr 2 0)), (24, (.d (.b (if (if (if (decide (p1 < 0)) = true then true else (decide ((p0.kids.length : Int) ≤ p1))) = true then true else (decide (y1 = 0))) = true then true else (decide (y1 = 9)))))), (23, (.ite (true && ((if (if (decide (p1 < 0)) = true then true else (decide ((p0.kids.length : Int) ≤ p1))) = true then true else (decide (y1 = 0))) == false)) (.d (.b (decide (y1 = 9)))))), (22, (.ite (true && ((if (if (decide (p1 < 0)) = true then true else (decide ((p0.kids.length : Int) ≤ p1))) = true then true else (decide (y1 = 0))) == false)) (.d (.i .i64 y1)))), (21, (.d (.b (if (if (decide (p1 < 0)) = true then true else (decide ((p0.kids.length : Int) ≤ p1))) = true then true else (decide (y1 = 0)))))), (20, (.d (.b (if (if (decide (p1 < 0)) = true then true else (decide ((p0.kids.length : Int) ≤ p1))) = true then true else (decide (y1 = 0)))))), (19, (.ite (true && ((if (decide (p1 < 0)) = true then true else (decide ((p0.kids.length : Int) ≤ p1))) == false)) (.d (.b (decide (y1 = 0)))))), (18, (.ite (true && ((if (decide (p1 < 0)) = true then true else (decide ((p0.kids.length : Int) ≤ p1))) == false)) (.d (.i .i64 y1)))), (17, (.d (.b (if (decide (p1 < 0)) = true then true else (decide ((p0.kids.length : Int) ≤ p1)))))), (16, (.d (.b (if (decide (p1 < 0)) = true then true else (decide ((p0.kids.length : Int) ≤ p1)))))), (15, (.ite (true && ((decide (p1 < 0)) == false)) (.d (.b (decide ((p0.kids.length : Int) ≤ p1)))))), (14, (.ite (true && ((decide (p1 < 0)) == false)) (.d (.i .i64 (p0.kids.length : Int))))), (13, (.ite (true && ((decide (p1 < 0)) == false)) (.d (.sl 10 (p0.kids.map cGExpr))))), (12, (.ite (true && ((decide (p1 < 0)) == false)) (.ptr 2 8))), (11, (.ite (true && ((decide (p1 < 0)) == false)) (.d (.i .i64 p1)))), (10, (.d (.b (decide (p1 < 0))))), (9, (.d (.b (decide (p1 < 0))))), (8, (.d (.i .i64 p1))), (5, (.d (.i .i64 y1))), (7, (.d (.i .i64 y1))), (6, (vGExpr p0)), (4, (.d (.i .i64 0))), (2, (.ptr 2 0)), (0, (vGExpr p0)), (1, (.d (.i .i64 p1)))], [(2, [(.d (.i .i64 p0.kind)), (.d (.i .i64 p0.op)), (.d (.b p0.not_)), (.d (.i .i64 p0.value.kind)), (.d (.i .i64 p0.value.num)), (.d (.s (bs p0.value.text))), (.d (.s (bs p0.qual))), (.d (.s (bs p0.name))), (.d (.sl 10 (p0.kids.map cGExpr))), (.d (.sl 6 (p0.sub.map cGQuery)))])]⟩) (by kernel_rfl) ?_
        refine nil_in ?_
        refine next_in ?_
        refine ret_in ?_
        refine blockK_ret ?_
        refine thenK_ret ?_
        have h := Option.some.inj h; subst h
        exact ret1_step (v := (.d (.i .i64 y1))) (by kernel_rfl) (by kernel_rfl) (by kernel_rfl)
      · clear h; intro h
        refine seq_in ?_
        refine ops_in ?_
        refine sts_ok 2 (s' := ⟨[(38, (.d (.b (decide (p0.kind = 7))))), (39, (.d (.b (decide (p0.kind = 7))))), (35, (.d (.b (decide (p0.kind = 3))))), (36, (.d (.b (decide (p0.kind = 3))))), (27, (.d (.b (decide (p0.kind = 4))))), (28, (.d (.b (decide (p0.kind = 4))))), (26, (.d (.i .i64 p0.kind))), (25, (.ptr 2 0)), (24, (.d (.b (if (if (if (decide (p1 < 0)) = true then true else (decide ((p0.kids.length : Int) ≤ p1))) = true then true else (decide (y1 = 0))) = true then true else (decide (y1 = 9)))))), (23, (.ite (true && ((if (if (decide (p1 < 0)) = true then true else (decide ((p0.kids.length : Int) ≤ p1))) = true then true else (decide (y1 = 0))) == false)) (.d (.b (decide (y1 = 9)))))), (22, (.ite (true && ((if (if (decide (p1 < 0)) = true then true else (decide ((p0.kids.length : Int) ≤ p1))) = true then true else (decide (y1 = 0))) == false)) (.d (.i .i64 y1)))), (21, (.d (.b (if (if (decide (p1 < 0)) = true then true else (decide ((p0.kids.length : Int) ≤ p1))) = true then true else (decide (y1 = 0)))))), (20, (.d (.b (if (if (decide (p1 < 0)) = true then true else (decide ((p0.kids.length : Int) ≤ p1))) = true then true else (decide (y1 = 0)))))), (19, (.ite (true && ((if (decide (p1 < 0)) = true then true else (decide ((p0.kids.length : Int) ≤ p1))) == false)) (.d (.b (decide (y1 = 0)))))), (18, (.ite (true && ((if (decide (p1 < 0)) = true then true else (decide ((p0.kids.length : Int) ≤ p1))) == false)) (.d (.i .i64 y1)))), (17, (.d (.b (if (decide (p1 < 0)) = true then true else (decide ((p0.kids.length : Int) ≤ p1)))))), (16, (.d (.b (if (decide (p1 < 0)) = true then true else (decide ((p0.kids.length : Int) ≤ p1)))))), (15, (.ite (true && ((decide (p1 < 0)) == false)) (.d (.b (decide ((p0.kids.length : Int) ≤ p1)))))), (14, (.ite (true && ((decide (p1 < 0)) == false)) (.d (.i .i64 (p0.kids.length : Int))))), (13, (.ite (true && ((decide (p1 < 0)) == false)) (.d (.sl 10 (p0.kids.map cGExpr))))), (12, (.ite (true && ((decide (p1 < 0)) == false)) (.ptr 2 8))), (11, (.ite (true && ((decide (p1 < 0)) == false)) (.d (.i .i64 p1)))), (10, (.d (.b (decide (p1 < 0))))), (9, (.d (.b (decide (p1 < 0))))), (8, (.d (.i .i64 p1))), (5, (.d (.i .i64 y1))), (7, (.d (.i .i64 y1))), (6, (vGExpr p0)), (4, (.d (.i .i64 0))), (2, (.ptr 2 0)), (0, (vGExpr p0)), (1, (.d (.i .i64 p1)))], [(2, [(.d (.i .i64 p0.kind)), (.d (.i .i64 p0.op)), (.d (.b p0.not_)), (.d (.i .i64 p0.value.kind)), (.d (.i .i64 p0.value.num)), (.d (.s (bs p0.value.text))), (.d (.s (bs p0.qual))), (.d (.s (bs p0.name))), (.d (.sl 10 (p0.kids.map cGExpr))), (.d (.sl 6 (p0.sub.map cGQuery)))])]⟩) (by kernel_rfl) ?_
        refine nil_in ?_
        refine next_in ?_
        refine cond_step h (by kernel_rfl) ?_ ?_
        · clear h; intro h
          refine seq_in ?_
          refine ops_in ?_
          refine sts_ok 2 (s' := ⟨[(41, (.d (.b (decide (0 < p1))))), (40, (.d (.i .i64 p1))), (38, (.d (.b (decide (p0.kind = 7))))), (39, (.d (.b (decide (p0.kind = 7))))), (35, (.d (.b (decide (p0.kind = 3))))), (36, (.d (.b (decide (p0.kind = 3))))), (27, (.d (.b (decide (p0.kind = 4))))), (28, (.d (.b (decide (p0.kind = 4))))), (26, (.d (.i .i64 p0.kind))), (25, (.ptr 2 0)), (24, (.d (.b (if (if (if (decide (p1 < 0)) = true then true else (decide ((p0.kids.length : Int) ≤ p1))) = true then true else (decide (y1 = 0))) = true then true else (decide (y1 = 9)))))), (23, (.ite (true && ((if (if (decide (p1 < 0)) = true then true else (decide ((p0.kids.length : Int) ≤ p1))) = true then true else (decide (y1 = 0))) == false)) (.d (.b (decide (y1 = 9)))))), (22, (.ite (true && ((if (if (decide (p1 < 0)) = true then true else (decide ((p0.kids.length : Int) ≤ p1))) = true then true else (decide (y1 = 0))) == false)) (.d (.i .i64 y1)))), (21, (.d (.b (if (if (decide (p1 < 0)) = true then true else (decide ((p0.kids.length : Int) ≤ p1))) = true then true else (decide (y1 = 0)))))), (20, (.d (.b (if (if (decide (p1 < 0)) = true then true else (decide ((p0.kids.length : Int) ≤ p1))) = true then true else (decide (y1 = 0)))))), (19, (.ite (true && ((if (decide (p1 < 0)) = true then true else (decide ((p0.kids.length : Int) ≤ p1))) == false)) (.d (.b (decide (y1 = 0)))))), (18, (.ite (true && ((if (decide (p1 < 0)) = true then true else (decide ((p0.kids.length : Int) ≤ p1))) == false)) (.d (.i .i64 y1)))), (17, (.d (.b (if (decide (p1 < 0)) = true then true else (decide ((p0.kids.length : Int) ≤ p1)))))), (16, (.d (.b (if (decide (p1 < 0)) = true then true else (decide ((p0.kids.length : Int) ≤ p1)))))), (15, (.ite (true && ((decide (p1 < 0)) == false)) (.d (.b (decide ((p0.kids.length : Int) ≤ p1)))))), (14, (.ite (true && ((decide (p1 < 0)) == false)) (.d (.i .i64 (p0.kids.length : Int))))), (13, (.ite (true && ((decide (p1 < 0)) == false)) (.d (.sl 10 (p0.kids.map cGExpr))))), (12, (.ite (true && ((decide (p1 < 0)) == false)) (.ptr 2 8))), (11, (.ite (true && ((decide (p1 < 0)) == false)) (.d (.i .i64 p1)))), (10, (.d (.b (decide (p1 < 0))))), (9, (.d (.b (decide (p1 < 0))))), (8, (.d (.i .i64 p1))), (5, (.d (.i .i64 y1))), (7, (.d (.i .i64 y1))), (6, (vGExpr p0)), (4, (.d (.i .i64 0))), (2, (.ptr 2 0)), (0, (vGExpr p0)), (1, (.d (.i .i64 p1)))], [(2, [(.d (.i .i64 p0.kind)), (.d (.i .i64 p0.op)), (.d (.b p0.not_)), (.d (.i .i64 p0.value.kind)), (.d (.i .i64 p0.value.num)), (.d (.s (bs p0.value.text))), (.d (.s (bs p0.qual))), (.d (.s (bs p0.name))), (.d (.sl 10 (p0.kids.map cGExpr))), (.d (.sl 6 (p0.sub.map cGQuery)))])]⟩) (by kernel_rfl) ?_
          refine nil_in ?_
          refine next_in ?_
          refine cond_step h (by kernel_rfl) ?_ ?_
          · clear h; intro h
            refine seq_in ?_
            refine ops_in ?_
            refine sts_ok 1 (s' := ⟨[(4, (.d (.i .i64 1))), (41, (.d (.b (decide (0 < p1))))), (40, (.d (.i .i64 p1))), (38, (.d (.b (decide (p0.kind = 7))))), (39, (.d (.b (decide (p0.kind = 7))))), (35, (.d (.b (decide (p0.kind = 3))))), (36, (.d (.b (decide (p0.kind = 3))))), (27, (.d (.b (decide (p0.kind = 4))))), (28, (.d (.b (decide (p0.kind = 4))))), (26, (.d (.i .i64 p0.kind))), (25, (.ptr 2 0)), (24, (.d (.b (if (if (if (decide (p1 < 0)) = true then true else (decide ((p0.kids.length : Int) ≤ p1))) = true then true else (decide (y1 = 0))) = true then true else (decide (y1 = 9)))))), (23, (.ite (true && ((if (if (decide (p1 < 0)) = true then true else (decide ((p0.kids.length : Int) ≤ p1))) = true then true else (decide (y1 = 0))) == false)) (.d (.b (decide (y1 = 9)))))), (22, (.ite (true && ((if (if (decide (p1 < 0)) = true then true else (decide ((p0.kids.length : Int) ≤ p1))) = true then true else (decide (y1 = 0))) == false)) (.d (.i .i64 y1)))), (21, (.d (.b (if (if (decide (p1 < 0)) = true then true else (decide ((p0.kids.length : Int) ≤ p1))) = true then true else (decide (y1 = 0)))))), (20, (.d (.b (if (if (decide (p1 < 0)) = true then true else (decide ((p0.kids.length : Int) ≤ p1))) = true then true else (decide (y1 = 0)))))), (19, (.ite (true && ((if (decide (p1 < 0)) = true then true else (decide ((p0.kids.length : Int) ≤ p1))) == false)) (.d (.b (decide (y1 = 0)))))), (18, (.ite (true && ((if (decide (p1 < 0)) = true then true else (decide ((p0.kids.length : Int) ≤ p1))) == false)) (.d (.i .i64 y1)))), (17, (.d (.b (if (decide (p1 < 0)) = true then true else (decide ((p0.kids.length : Int) ≤ p1)))))), (16, (.d (.b (if (decide (p1 < 0)) = true then true else (decide ((p0.kids.length : Int) ≤ p1)))))), (15, (.ite (true && ((decide (p1 < 0)) == false)) (.d (.b (decide ((p0.kids.length : Int) ≤ p1)))))), (14, (.ite (true && ((decide (p1 < 0)) == false)) (.d (.i .i64 (p0.kids.length : Int))))), (13, (.ite (true && ((decide (p1 < 0)) == false)) (.d (.sl 10 (p0.kids.map cGExpr))))), (12, (.ite (true && ((decide (p1 < 0)) == false)) (.ptr 2 8))), (11, (.ite (true && ((decide (p1 < 0)) == false)) (.d (.i .i64 p1)))), (10, (.d (.b (decide (p1 < 0))))), (9, (.d (.b (decide (p1 < 0))))), (8, (.d (.i .i64 p1))), (5, (.d (.i .i64 y1))), (7, (.d (.i .i64 y1))), (6, (vGExpr p0)), (4, (.d (.i .i64 0))), (2, (.ptr 2 0)), (0, (vGExpr p0)), (1, (.d (.i .i64 p1)))], [(2, [(.d (.i .i64 p0.kind)), (.d (.i .i64 p0.op)), (.d (.b p0.not_)), (.d (.i .i64 p0.value.kind)), (.d (.i .i64 p0.value.num)), (.d (.s (bs p0.value.text))), (.d (.s (bs p0.qual))), (.d (.s (bs p0.name))), (.d (.sl 10 (p0.kids.map cGExpr))), (.d (.sl 6 (p0.sub.map cGQuery)))])]⟩) (by kernel_rfl) ?_
            refine nil_in ?_
            refine next_in ?_
            refine ret_in ?_
            refine blockK_ret ?_
            refine thenK_ret ?_
            have h := Option.some.inj h; subst h
            exact ret1_step (v := (.d (.i .i64 1))) (by kernel_rfl) (by kernel_rfl) (by kernel_rfl)
          · clear h; intro h
            refine skip_in ?_
            refine blockK_norm ?_
            exact next_step (s' := stiNeeds_J0) (wk_ren [] (by kernel_rfl) (er_nil) (br_nil)) (OK_iNeeds_J0 _ h)
        · clear h; intro h
          refine skip_in ?_
          refine blockK_norm ?_
          exact next_step (s' := stiNeeds_J0) (wk_ren [] (by kernel_rfl) (er_nil) (br_nil)) (OK_iNeeds_J0 _ h)
theorem OK_iWrapped (p0 : GExpr) (p1 : Int) : FOk Try.prog 76 [(vGExpr p0), (.d (.i .i64 p1))] (fun y => (.d (.b y))) (iWrapped p0 p1) := by
  intro r h
  rw [iWrapped] at h
  refine acalls_of_fn triWrapped (Nat.le_of_ble_eq_true rfl) (by simp) ?_
  show avc Try.prog aciWrapped (qiWrapped _) ⟨[(0, (vGExpr p0)), (1, (.d (.i .i64 p1)))], []⟩
  delta aciWrapped
  refine seq_in ?_
  refine ops_in ?_
  refine sts_ok 2 (s' := ⟨[(4, (.d (.b false))), (2, (.ptr 2 0)), (0, (vGExpr p0)), (1, (.d (.i .i64 p1)))], [(2, [(.d (.i .i64 p0.kind)), (.d (.i .i64 p0.op)), (.d (.b p0.not_)), (.d (.i .i64 p0.value.kind)), (.d (.i .i64 p0.value.num)), (.d (.s (bs p0.value.text))), (.d (.s (bs p0.qual))), (.d (.s (bs p0.name))), (.d (.sl 10 (p0.kids.map cGExpr))), (.d (.sl 6 (p0.sub.map cGQuery)))])]⟩) (by kernel_rfl) ?_
  refine nil_in ?_
  refine next_in ?_
  refine seq_in ?_
  refine dops_in ?_
  refine dsts_ok 3 (s' := ⟨[(7, (.d (.b (decide (0 ≤ p1))))), (6, (.d (.b (decide (0 ≤ p1))))), (5, (.d (.i .i64 p1))), (4, (.d (.b false))), (2, (.ptr 2 0)), (0, (vGExpr p0)), (1, (.d (.i .i64 p1)))], [(2, [(.d (.i .i64 p0.kind)), (.d (.i .i64 p0.op)), (.d (.b p0.not_)), (.d (.i .i64 p0.value.kind)), (.d (.i .i64 p0.value.num)), (.d (.s (bs p0.value.text))), (.d (.s (bs p0.qual))), (.d (.s (bs p0.name))), (.d (.sl 10 (p0.kids.map cGExpr))), (.d (.sl 6 (p0.sub.map cGQuery)))])]⟩) (by kernel_rfl) ?_
  refine dgp_step (p := true) (b := (decide (0 ≤ p1))) (v' := (.d (.i .i64 p1))) (by kernel_rfl) rfl rfl (fun hc => vop_val1 (by kernel_rfl) (by kernel_rfl)) ?_
  refine dgp_step (p := true) (b := (decide (0 ≤ p1))) (v' := (.ptr 2 8)) (by kernel_rfl) rfl rfl (fun hc => vop_val1 (by kernel_rfl) (by kernel_rfl)) ?_
  refine dgp_step (p := true) (b := (decide (0 ≤ p1))) (v' := (.d (.sl 10 (p0.kids.map cGExpr)))) (by kernel_rfl) rfl rfl (fun hc => vop_val1 (Eq.trans (b := ([(true && ((decide (0 ≤ p1)) == true))] : List Bool).all id) (by kernel_rfl) (all_c hc rfl)) (by kernel_rfl)) ?_
  refine dgp_step (p := true) (b := (decide (0 ≤ p1))) (v' := (.d (.i .i64 (p0.kids.length : Int)))) (by kernel_rfl) rfl rfl (fun hc => vop_len (sz := 10) (l := p0.kids) (f := cGExpr) (Eq.trans (b := ([(true && ((decide (0 ≤ p1)) == true))] : List Bool).all id) (by kernel_rfl) (all_c hc rfl)) (by kernel_rfl)) ?_
  refine dgp_step (p := true) (b := (decide (0 ≤ p1))) (v' := (.d (.b (decide (p1 < (p0.kids.length : Int)))))) (by kernel_rfl) rfl rfl (fun hc => vop_val1 (Eq.trans (b := ([(true && ((decide (0 ≤ p1)) == true)), (true && ((decide (0 ≤ p1)) == true))] : List Bool).all id) (by kernel_rfl) (all_c hc (all_c hc rfl))) (by kernel_rfl)) ?_
  refine dp_step (v' := (.d (.b (if (decide (0 ≤ p1)) = true then (decide (p1 < (p0.kids.length : Int))) else false)))) rfl rfl (vop_pick (b := (decide (0 ≤ p1))) (p := (true && ((decide (0 ≤ p1)) == true))) (u := (decide (p1 < (p0.kids.length : Int)))) (q := true) (v := false) (by kernel_rfl) (by kernel_rfl) (by kernel_rfl) (by kernel_rfl) (fun hb => gc_t rfl hb) (fun _ => rfl)) ?_
  refine dsts_ok 1 (s' := ⟨[(14, (.d (.b (if (decide (0 ≤ p1)) = true then (decide (p1 < (p0.kids.length : Int))) else false)))), (13, (.d (.b (if (decide (0 ≤ p1)) = true then (decide (p1 < (p0.kids.length : Int))) else false)))), (12, (.ite (true && ((decide (0 ≤ p1)) == true)) (.d (.b (decide (p1 < (p0.kids.length : Int))))))), (11, (.ite (true && ((decide (0 ≤ p1)) == true)) (.d (.i .i64 (p0.kids.length : Int))))), (10, (.ite (true && ((decide (0 ≤ p1)) == true)) (.d (.sl 10 (p0.kids.map cGExpr))))), (9, (.ite (true && ((decide (0 ≤ p1)) == true)) (.ptr 2 8))), (8, (.ite (true && ((decide (0 ≤ p1)) == true)) (.d (.i .i64 p1)))), (7, (.d (.b (decide (0 ≤ p1))))), (6, (.d (.b (decide (0 ≤ p1))))), (5, (.d (.i .i64 p1))), (4, (.d (.b false))), (2, (.ptr 2 0)), (0, (vGExpr p0)), (1, (.d (.i .i64 p1)))], [(2, [(.d (.i .i64 p0.kind)), (.d (.i .i64 p0.op)), (.d (.b p0.not_)), (.d (.i .i64 p0.value.kind)), (.d (.i .i64 p0.value.num)), (.d (.s (bs p0.value.text))), (.d (.s (bs p0.qual))), (.d (.s (bs p0.name))), (.d (.sl 10 (p0.kids.map cGExpr))), (.d (.sl 6 (p0.sub.map cGQuery)))])]⟩) (by kernel_rfl) ?_
  refine dgp_step (p := true) (b := (if (decide (0 ≤ p1)) = true then (decide (p1 < (p0.kids.length : Int))) else false)) (v' := (.ptr 2 8)) (by kernel_rfl) rfl rfl (fun hc => vop_val1 (by kernel_rfl) (by kernel_rfl)) ?_
  refine dgp_step (p := true) (b := (if (decide (0 ≤ p1)) = true then (decide (p1 < (p0.kids.length : Int))) else false)) (v' := (.d (.sl 10 (p0.kids.map cGExpr)))) (by kernel_rfl) rfl rfl (fun hc => vop_val1 (Eq.trans (b := ([(true && ((if (decide (0 ≤ p1)) = true then (decide (p1 < (p0.kids.length : Int))) else false) == true))] : List Bool).all id) (by kernel_rfl) (all_c hc rfl)) (by kernel_rfl)) ?_
  refine dgp_step (p := true) (b := (if (decide (0 ≤ p1)) = true then (decide (p1 < (p0.kids.length : Int))) else false)) (v' := (.d (.i .i64 p1))) (by kernel_rfl) rfl rfl (fun hc => vop_val1 (by kernel_rfl) (by kernel_rfl)) ?_
  refine dgv_step (p := true) (b := (if (decide (0 ≤ p1)) = true then (decide (p1 < (p0.kids.length : Int))) else false)) (m := idx p0.kids p1) (dflt := default) (v' := fun y => (.rp [(.i .i64 y.kind), (.i .i64 y.op), (.b y.not_), (.i .i64 y.value.kind), (.i .i64 y.value.num), (.s (bs y.value.text)), (.s (bs y.qual)), (.s (bs y.name)), (.sl 10 (y.kids.map cGExpr)), (.sl 6 (y.sub.map cGQuery))])) h (by kernel_rfl) rfl rfl (fun y hy hc => vop_ia (l := p0.kids) (f := cGExpr) (g := oGExpr) (k := .i64) hy cGExpr_eq (Eq.trans (b := ([(true && ((if (decide (0 ≤ p1)) = true then (decide (p1 < (p0.kids.length : Int))) else false) == true)), (true && ((if (decide (0 ≤ p1)) = true then (decide (p1 < (p0.kids.length : Int))) else false) == true))] : List Bool).all id) (by kernel_rfl) (all_c hc (all_c hc rfl))) (by kernel_rfl) (by kernel_rfl)) ?_
  clear h; intro y1 h
  refine dgp_step (p := true) (b := (if (decide (0 ≤ p1)) = true then (decide (p1 < (p0.kids.length : Int))) else false)) (v' := (vGExpr y1)) (by kernel_rfl) rfl rfl (fun hc => vop_val1 (Eq.trans (b := ([(true && ((if (decide (0 ≤ p1)) = true then (decide (p1 < (p0.kids.length : Int))) else false) == true))] : List Bool).all id) (by kernel_rfl) (all_c hc rfl)) (by kernel_rfl)) ?_
  refine dgcall_step (p := true) (b := (if (decide (0 ≤ p1)) = true then (decide (p1 < (p0.kids.length : Int))) else false)) (m := iLevelOf y1) (dflt := default) (args := [(vGExpr y1)]) (v' := (fun y => (.d (.i .i64 y)))) h (by kernel_rfl) (OK_iLevelOf y1) (fun hc => by kernel_rfl) (by kernel_rfl) (fun _ => rfl) (fun hc => (Eq.trans (b := ([(true && ((if (decide (0 ≤ p1)) = true then (decide (p1 < (p0.kids.length : Int))) else false) == true))] : List Bool).all id) (by kernel_rfl) (all_c hc rfl))) ?_
  clear h; intro y2 h
  refine dgp_step (p := true) (b := (if (decide (0 ≤ p1)) = true then (decide (p1 < (p0.kids.length : Int))) else false)) (v' := (vGExpr p0)) (by kernel_rfl) rfl rfl (fun hc => vop_val1 (by kernel_rfl) (by kernel_rfl)) ?_
  refine dgp_step (p := true) (b := (if (decide (0 ≤ p1)) = true then (decide (p1 < (p0.kids.length : Int))) else false)) (v' := (.d (.i .i64 p1))) (by kernel_rfl) rfl rfl (fun hc => vop_val1 (by kernel_rfl) (by kernel_rfl)) ?_
  refine dgcall_step (p := true) (b := (if (decide (0 ≤ p1)) = true then (decide (p1 < (p0.kids.length : Int))) else false)) (m := iNeeds p0 p1) (dflt := default) (args := [(vGExpr p0), (.d (.i .i64 p1))]) (v' := (fun y => (.d (.i .i64 y)))) h (by kernel_rfl) (OK_iNeeds p0 p1) (fun hc => by kernel_rfl) (by kernel_rfl) (fun _ => rfl) (fun hc => (Eq.trans (b := ([(true && ((if (decide (0 ≤ p1)) = true then (decide (p1 < (p0.kids.length : Int))) else false) == true)), (true && ((if (decide (0 ≤ p1)) = true then (decide (p1 < (p0.kids.length : Int))) else false) == true))] : List Bool).all id) (by kernel_rfl) (all_c hc (all_c hc rfl)))) ?_
  clear h; intro y3 h
  refine dgp_step (p := true) (b := (if (decide (0 ≤ p1)) = true then (decide (p1 < (p0.kids.length : Int))) else false)) (v' := (.d (.b (decide (y2 < y3))))) (by kernel_rfl) rfl rfl (fun hc => vop_val1 (Eq.trans (b := ([(true && ((if (decide (0 ≤ p1)) = true then (decide (p1 < (p0.kids.length : Int))) else false) == true)), (true && ((if (decide (0 ≤ p1)) = true then (decide (p1 < (p0.kids.length : Int))) else false) == true))] : List Bool).all id) (by kernel_rfl) (all_c hc (all_c hc rfl))) (by kernel_rfl)) ?_
  refine dp_step (v' := (.d (.b (if (if (decide (0 ≤ p1)) = true then (decide (p1 < (p0.kids.length : Int))) else false) = true then (decide (y2 < y3)) else false)))) rfl rfl (vop_pick (b := (if (decide (0 ≤ p1)) = true then (decide (p1 < (p0.kids.length : Int))) else false)) (p := (true && ((if (decide (0 ≤ p1)) = true then (decide (p1 < (p0.kids.length : Int))) else false) == true))) (u := (decide (y2 < y3))) (q := true) (v := false) (by kernel_rfl) (by kernel_rfl) (by kernel_rfl) (by kernel_rfl) (fun hb => gc_t rfl hb) (fun _ => rfl)) ?_
  refine dsts_ok 1 (s' := ⟨[(4, (.d (.b (if (if (decide (0 ≤ p1)) = true then (decide (p1 < (p0.kids.length : Int))) else false) = true then (decide (y2 < y3)) else false)))), (25, (.d (.b (if (if (decide (0 ≤ p1)) = true then (decide (p1 < (p0.kids.length : Int))) else false) = true then (decide (y2 < y3)) else false)))), (24, (.ite (true && ((if (decide (0 ≤ p1)) = true then (decide (p1 < (p0.kids.length : Int))) else false) == true)) (.d (.b (decide (y2 < y3)))))), (23, (.ite (true && ((if (decide (0 ≤ p1)) = true then (decide (p1 < (p0.kids.length : Int))) else false) == true)) (.d (.i .i64 y3)))), (22, (.ite (true && ((if (decide (0 ≤ p1)) = true then (decide (p1 < (p0.kids.length : Int))) else false) == true)) (.d (.i .i64 p1)))), (21, (.ite (true && ((if (decide (0 ≤ p1)) = true then (decide (p1 < (p0.kids.length : Int))) else false) == true)) (vGExpr p0))), (20, (.ite (true && ((if (decide (0 ≤ p1)) = true then (decide (p1 < (p0.kids.length : Int))) else false) == true)) (.d (.i .i64 y2)))), (19, (.ite (true && ((if (decide (0 ≤ p1)) = true then (decide (p1 < (p0.kids.length : Int))) else false) == true)) (vGExpr y1))), (18, (.ite (true && ((if (decide (0 ≤ p1)) = true then (decide (p1 < (p0.kids.length : Int))) else false) == true)) (.rp [(.i .i64 y1.kind), (.i .i64 y1.op), (.b y1.not_), (.i .i64 y1.value.kind), (.i .i64 y1.value.num), (.s (bs y1.value.text)), (.s (bs y1.qual)), (.s (bs y1.name)), (.sl 10 (y1.kids.map cGExpr)), (.sl 6 (y1.sub.map cGQuery))]))), (17, (.ite (true && ((if (decide (0 ≤ p1)) = true then (decide (p1 < (p0.kids.length : Int))) else false) == true)) (.d (.i .i64 p1)))), (16, (.ite (true && ((if (decide (0 ≤ p1)) = true then (decide (p1 < (p0.kids.length : Int))) else false) == true)) (.d (.sl 10 (p0.kids.map cGExpr))))), (15, (.ite (true && ((if (decide (0 ≤ p1)) = true then (decide (p1 < (p0.kids.length : Int))) else false) == true)) (.ptr 2 8))), (14, (.d (.b (if (decide (0 ≤ p1)) = true then (decide (p1 < (p0.kids.length : Int))) else false)))), (13, (.d (.b (if (decide (0 ≤ p1)) = true then (decide (p1 < (p0.kids.length : Int))) else false)))), (12, (.ite (true && ((decide (0 ≤ p1)) == true)) (.d (.b (decide (p1 < (p0.kids.length : Int))))))), (11, (.ite (true && ((decide (0 ≤ p1)) == true)) (.d (.i .i64 (p0.kids.length : Int))))), (10, (.ite (true && ((decide (0 ≤ p1)) == true)) (.d (.sl 10 (p0.kids.map cGExpr))))), (9, (.ite (true && ((decide (0 ≤ p1)) == true)) (.ptr 2 8))), (8, (.ite (true && ((decide (0 ≤ p1)) == true)) (.d (.i .i64 p1)))), (7, (.d (.b (decide (0 ≤ p1))))), (6, (.d (.b (decide (0 ≤ p1))))), (5, (.d (.i .i64 p1))), (4, (.d (.b false))), (2, (.ptr 2 0)), (0, (vGExpr p0)), (1, (.d (.i .i64 p1)))], [(2, [(.d (.i .i64 p0.kind)), (.d (.i .i64 p0.op)), (.d (.b p0.not_)), (.d (.i .i64 p0.value.kind)), (.d (.i .i64 p0.value.num)), (.d (.s (bs p0.value.text))), (.d (.s (bs p0.qual))), (.d (.s (bs p0.name))), (.d (.sl 10 (p0.kids.map cGExpr))), (.d (.sl 6 (p0.sub.map cGQuery)))])]⟩) (by kernel_rfl) ?_
  refine dnil_in (by kernel_rfl) (by kernel_rfl) ?_
  refine next_in ?_
  refine ret_in ?_
  have h := Option.some.inj h; subst h
  exact ret1_step (v := (.d (.b (if (if (decide (0 ≤ p1)) = true then (decide (p1 < (p0.kids.length : Int))) else false) = true then (decide (y2 < y3)) else false)))) (by kernel_rfl) (by kernel_rfl) (by kernel_rfl)
theorem OKs_iWraps_L2 : (∀ (p0 : GExpr) (x3_4 : Int) (x25 : Int) (r : Int), iWraps_L2 p0 x3_4 x25 = some r → avc Try.prog aciWraps_L2 (qiWraps_4 r) (stiWraps_L2 p0 x3_4 x25)) ∧ (∀ (p0 : GQuery) (r : Int), iWrapsIn p0 = some r → ACalls Try.prog 25 [(vGQuery p0)] [] fun x _ => x = (fun y => (.d (.i .i64 y))) r) ∧ (∀ (p0 : (List GExpr)) (r : Int), iWrapsOfAll p0 = some r → ACalls Try.prog 75 [(.d (.sl 10 (p0.map cGExpr)))] [] fun x _ => x = (fun y => (.d (.i .i64 y))) r) ∧ (∀ (p0 : (List GExpr)) (x3 : Int) (x8 : Int) (r : Int), iWrapsOfAll_L0 p0 x3 x8 = some r → avc Try.prog aciWrapsOfAll_L0 (qiWrapsOfAll_1 r) (stiWrapsOfAll_L0 p0 x3 x8)) ∧ (∀ (p0 : GExpr) (r : Int), iWraps p0 = some r → ACalls Try.prog 22 [(vGExpr p0)] [] fun x _ => x = (fun y => (.d (.i .i64 y))) r) ∧ (∀ (p0 : GExpr) (x3 : Int) (x13 : Int) (r : Int), iWraps_L0 p0 x3 x13 = some r → avc Try.prog aciWraps_L0 (qiWraps_1 r) (stiWraps_L0 p0 x3 x13)) ∧ (∀ (p0 : GExpr) (x13 : Int) (x3_3 : Int) (r : Int), iWraps_J1 p0 x13 x3_3 = some r → avc Try.prog aciWraps_J1 (qiWraps_2 r) (stiWraps_J1 p0 x13 x3_3)) := by
  refine iWraps_L2.mutual_partial_correctness (fun p0 x3_4 x25 r => avc Try.prog aciWraps_L2 (qiWraps_4 r) (stiWraps_L2 p0 x3_4 x25)) (fun p0 r => ACalls Try.prog 25 [(vGQuery p0)] [] fun x _ => x = (fun y => (.d (.i .i64 y))) r) (fun p0 r => ACalls Try.prog 75 [(.d (.sl 10 (p0.map cGExpr)))] [] fun x _ => x = (fun y => (.d (.i .i64 y))) r) (fun p0 x3 x8 r => avc Try.prog aciWrapsOfAll_L0 (qiWrapsOfAll_1 r) (stiWrapsOfAll_L0 p0 x3 x8)) (fun p0 r => ACalls Try.prog 22 [(vGExpr p0)] [] fun x _ => x = (fun y => (.d (.i .i64 y))) r) (fun p0 x3 x13 r => avc Try.prog aciWraps_L0 (qiWraps_1 r) (stiWraps_L0 p0 x3 x13)) (fun p0 x13 x3_3 r => avc Try.prog aciWraps_J1 (qiWraps_2 r) (stiWraps_J1 p0 x13 x3_3)) ?_ ?_ ?_ ?_ ?_ ?_ ?_
  · intro F_iWraps_L2 F_iWrapsIn OK_iWraps_L2 OK_iWrapsIn p0 x3_4 x25 r h
    delta aciWraps_L2
    refine loop_unroll ?_
    refine seq_in ?_
    refine ops_in ?_
    refine sts_ok 1 (s' := ⟨(26, (.d (.b (decide (x25 < (p0.sub.length : Int)))))) :: (stiWraps_L2 p0 x3_4 x25).env, (stiWraps_L2 p0 x3_4 x25).bx⟩) (by kernel_rfl) ?_
    refine nil_in ?_
    refine next_in ?_
    refine seq_in ?_
    refine cond_step h (by kernel_rfl) ?_ ?_
    · clear h; intro h
      refine skip_in ?_
      refine next_in ?_
      refine seq_in ?_
      refine block_in ?_
      refine seq_in ?_
      refine ops_in ?_
      refine v_step (m := idx p0.sub x25) (v' := fun y => (.rp [(.b y.distinct), (.sl 13 (y.items.map cGItem)), (.sl 3 (y.from_.map cGSource)), (.sl 10 (y.where_.map cGExpr)), (.sl 11 (y.order.map cGSortKey)), (.i .i64 y.limit)])) h rfl rfl (fun y hy => vop_ia (l := p0.sub) (f := cGQuery) (g := oGQuery) (k := .i64) hy cGQuery_eq (by kernel_rfl) (by kernel_rfl) (by kernel_rfl)) ?_
      clear h; intro y5 h
      refine sts_ok 3 (s' := ⟨(6, (.ptr 6 0)) :: (28, (vGQuery y5)) :: (27, (.rp [(.b y5.distinct), (.sl 13 (y5.items.map cGItem)), (.sl 3 (y5.from_.map cGSource)), (.sl 10 (y5.where_.map cGExpr)), (.sl 11 (y5.order.map cGSortKey)), (.i .i64 y5.limit)])) :: (26, (.d (.b (decide (x25 < (p0.sub.length : Int)))))) :: (stiWraps_L2 p0 x3_4 x25).env, [(6, [(.d (.b y5.distinct)), (.d (.sl 13 (y5.items.map cGItem))), (.d (.sl 3 (y5.from_.map cGSource))), (.d (.sl 10 (y5.where_.map cGExpr))), (.d (.sl 11 (y5.order.map cGSortKey))), (.d (.i .i64 y5.limit))])]⟩) (by kernel_rfl) ?_
      refine nil_in ?_
      refine next_in ?_
      refine ops_in ?_
      refine sts_ok 2 (s' := ⟨(30, (vGQuery y5)) :: (29, (.d (.i .i64 x3_4))) :: (6, (.ptr 6 0)) :: (28, (vGQuery y5)) :: (27, (.rp [(.b y5.distinct), (.sl 13 (y5.items.map cGItem)), (.sl 3 (y5.from_.map cGSource)), (.sl 10 (y5.where_.map cGExpr)), (.sl 11 (y5.order.map cGSortKey)), (.i .i64 y5.limit)])) :: (26, (.d (.b (decide (x25 < (p0.sub.length : Int)))))) :: (stiWraps_L2 p0 x3_4 x25).env, [(6, [(.d (.b y5.distinct)), (.d (.sl 13 (y5.items.map cGItem))), (.d (.sl 3 (y5.from_.map cGSource))), (.d (.sl 10 (y5.where_.map cGExpr))), (.d (.sl 11 (y5.order.map cGSortKey))), (.d (.i .i64 y5.limit))])]⟩) (by kernel_rfl) ?_
      refine call_step (m := F_iWrapsIn y5) (args := [(vGQuery y5)]) (v' := (fun y => (.d (.i .i64 y)))) h (OK_iWrapsIn y5) (by kernel_rfl) (by kernel_rfl) (fun _ => rfl) ?_
      clear h; intro y6 h
      refine sts_ok 2 (s' := ⟨(3, (.d (.i .i64 (IntKind.wrap .i64 (x3_4 + y6))))) :: (32, (.d (.i .i64 (IntKind.wrap .i64 (x3_4 + y6))))) :: (31, (.d (.i .i64 y6))) :: (30, (vGQuery y5)) :: (29, (.d (.i .i64 x3_4))) :: (6, (.ptr 6 0)) :: (28, (vGQuery y5)) :: (27, (.rp [(.b y5.distinct), (.sl 13 (y5.items.map cGItem)), (.sl 3 (y5.from_.map cGSource)), (.sl 10 (y5.where_.map cGExpr)), (.sl 11 (y5.order.map cGSortKey)), (.i .i64 y5.limit)])) :: (26, (.d (.b (decide (x25 < (p0.sub.length : Int)))))) :: (stiWraps_L2 p0 x3_4 x25).env, [(6, [(.d (.b y5.distinct)), (.d (.sl 13 (y5.items.map cGItem))), (.d (.sl 3 (y5.from_.map cGSource))), (.d (.sl 10 (y5.where_.map cGExpr))), (.d (.sl 11 (y5.order.map cGSortKey))), (.d (.i .i64 y5.limit))])]⟩) (by kernel_rfl) ?_
      refine nil_in ?_
      refine blockK_norm ?_
      refine next_in ?_
      refine ops_in ?_
      refine sts_ok 2 (s' := ⟨(25, (.d (.i .i64 (IntKind.wrap .i64 (x25 + 1))))) :: (33, (.d (.i .i64 (IntKind.wrap .i64 (x25 + 1))))) :: (3, (.d (.i .i64 (IntKind.wrap .i64 (x3_4 + y6))))) :: (32, (.d (.i .i64 (IntKind.wrap .i64 (x3_4 + y6))))) :: (31, (.d (.i .i64 y6))) :: (30, (vGQuery y5)) :: (29, (.d (.i .i64 x3_4))) :: (6, (.ptr 6 0)) :: (28, (vGQuery y5)) :: (27, (.rp [(.b y5.distinct), (.sl 13 (y5.items.map cGItem)), (.sl 3 (y5.from_.map cGSource)), (.sl 10 (y5.where_.map cGExpr)), (.sl 11 (y5.order.map cGSortKey)), (.i .i64 y5.limit)])) :: (26, (.d (.b (decide (x25 < (p0.sub.length : Int)))))) :: (stiWraps_L2 p0 x3_4 x25).env, [(6, [(.d (.b y5.distinct)), (.d (.sl 13 (y5.items.map cGItem))), (.d (.sl 3 (y5.from_.map cGSource))), (.d (.sl 10 (y5.where_.map cGExpr))), (.d (.sl 11 (y5.order.map cGSortKey))), (.d (.i .i64 y5.limit))])]⟩) (by kernel_rfl) ?_
      refine nil_in ?_
      exact loop_back (s' := stiWraps_L2 p0 (IntKind.wrap .i64 (x3_4 + y6)) (IntKind.wrap .i64 (x25 + 1))) (wk_ren [] (by kernel_rfl) (er_cons (vr_same (by kernel_rfl) (by kernel_rfl)) (er_cons (vr_same (by kernel_rfl) (by kernel_rfl)) (er_cons (vr_same (by kernel_rfl) (by kernel_rfl)) (er_cons (vr_same (by kernel_rfl) (by kernel_rfl)) (er_nil))))) (br_nil)) (OK_iWraps_L2 p0 (IntKind.wrap .i64 (x3_4 + y6)) (IntKind.wrap .i64 (x25 + 1)) _ h)
    · clear h; intro h
      refine exit_in ?_
      refine thenK_exit ?_
      refine thenK_exit ?_
      refine blockK_here ?_
      refine next_in ?_
      refine seq_in ?_
      refine ops_in ?_
      refine sts_ok 2 (s' := ⟨(2, (.d (.i .i64 x3_4))) :: (34, (.d (.i .i64 x3_4))) :: (26, (.d (.b (decide (x25 < (p0.sub.length : Int)))))) :: (stiWraps_L2 p0 x3_4 x25).env, (stiWraps_L2 p0 x3_4 x25).bx⟩) (by kernel_rfl) ?_
      refine nil_in ?_
      refine next_in ?_
      refine ret_in ?_
      have h := Option.some.inj h; subst h
      exact ret1_step (v := (.d (.i .i64 x3_4))) (by kernel_rfl) (by kernel_rfl) (by kernel_rfl)
  · intro F_iWrapsOfAll OK_iWrapsOfAll p0 r h
    refine acalls_of_fn triWrapsIn (Nat.le_of_ble_eq_true rfl) (by simp) ?_
    show avc Try.prog aciWrapsIn (qiWrapsIn _) ⟨[(0, (vGQuery p0))], []⟩
    delta aciWrapsIn
    refine seq_in ?_
    refine ops_in ?_
    refine sts_ok 2 (s' := ⟨[(2, (.d (.i .i64 0))), (1, (.ptr 1 0)), (0, (vGQuery p0))], [(1, [(.d (.b p0.distinct)), (.d (.sl 13 (p0.items.map cGItem))), (.d (.sl 3 (p0.from_.map cGSource))), (.d (.sl 10 (p0.where_.map cGExpr))), (.d (.sl 11 (p0.order.map cGSortKey))), (.d (.i .i64 p0.limit))])]⟩) (by kernel_rfl) ?_
    refine nil_in ?_
    refine next_in ?_
    refine seq_in ?_
    refine ops_in ?_
    refine sts_ok 1 (s' := ⟨[(3, (vGQuery p0)), (2, (.d (.i .i64 0))), (1, (.ptr 1 0)), (0, (vGQuery p0))], [(1, [(.d (.b p0.distinct)), (.d (.sl 13 (p0.items.map cGItem))), (.d (.sl 3 (p0.from_.map cGSource))), (.d (.sl 10 (p0.where_.map cGExpr))), (.d (.sl 11 (p0.order.map cGSortKey))), (.d (.i .i64 p0.limit))])]⟩) (by kernel_rfl) ?_
    refine callg_step ⟨[], [], [], [], [], [(2000000, 4)], [], [4]⟩ (m := iQuery_exprs p0) (S' := fun (y : (List GExpr)) => ⟨[(4, (.osl 4 49 10 (y.map cGExpr))), (3, (vGQuery p0)), (2, (.d (.i .i64 0))), (1, (.ptr 1 0)), (0, (vGQuery p0))], [(1, [(.d (.b p0.distinct)), (.d (.sl 13 (p0.items.map cGItem))), (.d (.sl 3 (p0.from_.map cGSource))), (.d (.sl 10 (p0.where_.map cGExpr))), (.d (.sl 11 (p0.order.map cGSortKey))), (.d (.i .i64 p0.limit))])]⟩) h (OK_iQuery_exprs p0) (by kernel_rfl) (by kernel_rfl) (by kernel_rfl) (by kernel_rfl) (fun y => by kernel_rfl) (fun y => by kernel_rfl) ?_
    clear h; intro y1 h
    refine call_step (m := F_iWrapsOfAll y1) (args := [(.d (.sl 10 (y1.map cGExpr)))]) (v' := (fun y => (.d (.i .i64 y)))) h (OK_iWrapsOfAll y1) (by kernel_rfl) (by kernel_rfl) (fun _ => rfl) ?_
    clear h; intro y2 h
    refine sts_ok 1 (s' := ⟨[(2, (.d (.i .i64 y2))), (5, (.d (.i .i64 y2))), (4, (.osl 4 49 10 (y1.map cGExpr))), (3, (vGQuery p0)), (2, (.d (.i .i64 0))), (1, (.ptr 1 0)), (0, (vGQuery p0))], [(1, [(.d (.b p0.distinct)), (.d (.sl 13 (p0.items.map cGItem))), (.d (.sl 3 (p0.from_.map cGSource))), (.d (.sl 10 (p0.where_.map cGExpr))), (.d (.sl 11 (p0.order.map cGSortKey))), (.d (.i .i64 p0.limit))])]⟩) (by kernel_rfl) ?_
    refine nil_in ?_
    refine next_in ?_
    refine ret_in ?_
    have h := Option.some.inj h; subst h
    exact ret1_step (v := (.d (.i .i64 y2))) (by kernel_rfl) (by kernel_rfl) (by kernel_rfl)
  · intro F_iWrapsOfAll_L0 OK_iWrapsOfAll_L0 p0 r h
    refine acalls_of_fn triWrapsOfAll (Nat.le_of_ble_eq_true rfl) (by simp) ?_
    show avc Try.prog aciWrapsOfAll (qiWrapsOfAll _) ⟨[(0, (.d (.sl 10 (p0.map cGExpr))))], []⟩
    delta aciWrapsOfAll
    refine seq_in ?_
    refine ops_in ?_
    refine sts_ok 1 (s' := ⟨[(2, (.d (.i .i64 0))), (0, (.d (.sl 10 (p0.map cGExpr))))], []⟩) (by kernel_rfl) ?_
    refine nil_in ?_
    refine next_in ?_
    refine seq_in ?_
    refine ops_in ?_
    refine sts_ok 1 (s' := ⟨[(3, (.d (.i .i64 0))), (2, (.d (.i .i64 0))), (0, (.d (.sl 10 (p0.map cGExpr))))], []⟩) (by kernel_rfl) ?_
    refine nil_in ?_
    refine next_in ?_
    refine seq_in ?_
    refine seq_in ?_
    refine ops_in ?_
    refine sts_ok 1 (s' := ⟨[(6, (.d (.sl 10 (p0.map cGExpr)))), (3, (.d (.i .i64 0))), (2, (.d (.i .i64 0))), (0, (.d (.sl 10 (p0.map cGExpr))))], []⟩) (by kernel_rfl) ?_
    refine p_step (v' := (.d (.i .i64 (p0.length : Int)))) rfl rfl (vop_len (sz := 10) (l := p0) (f := cGExpr) (by kernel_rfl) (by kernel_rfl)) ?_
    refine sts_ok 1 (s' := ⟨[(8, (.d (.i .i64 0))), (7, (.d (.i .i64 (p0.length : Int)))), (6, (.d (.sl 10 (p0.map cGExpr)))), (3, (.d (.i .i64 0))), (2, (.d (.i .i64 0))), (0, (.d (.sl 10 (p0.map cGExpr))))], []⟩) (by kernel_rfl) ?_
    refine nil_in ?_
    refine next_in ?_
    refine block_in ?_
    exact loop_go (s' := stiWrapsOfAll_L0 p0 0 0) (wk_ren [] (by kernel_rfl) (er_cons (vr_same (by kernel_rfl) (by kernel_rfl)) (er_cons (vr_same (by kernel_rfl) (by kernel_rfl)) (er_cons (vr_same (by kernel_rfl) (by kernel_rfl)) (er_cons (vr_same (by kernel_rfl) (by kernel_rfl)) (er_nil))))) (br_nil)) (OK_iWrapsOfAll_L0 p0 0 0 _ h)
  · intro F_iWrapsOfAll_L0 F_iWraps OK_iWrapsOfAll_L0 OK_iWraps p0 x3 x8 r h
    delta aciWrapsOfAll_L0
    refine loop_unroll ?_
    refine seq_in ?_
    refine ops_in ?_
    refine sts_ok 1 (s' := ⟨(9, (.d (.b (decide (x8 < (p0.length : Int)))))) :: (stiWrapsOfAll_L0 p0 x3 x8).env, (stiWrapsOfAll_L0 p0 x3 x8).bx⟩) (by kernel_rfl) ?_
    refine nil_in ?_
    refine next_in ?_
    refine seq_in ?_
    refine cond_step h (by kernel_rfl) ?_ ?_
    · clear h; intro h
      refine skip_in ?_
      refine next_in ?_
      refine seq_in ?_
      refine block_in ?_
      refine seq_in ?_
      refine ops_in ?_
      refine v_step (m := idx p0 x8) (v' := fun y => (.rp [(.i .i64 y.kind), (.i .i64 y.op), (.b y.not_), (.i .i64 y.value.kind), (.i .i64 y.value.num), (.s (bs y.value.text)), (.s (bs y.qual)), (.s (bs y.name)), (.sl 10 (y.kids.map cGExpr)), (.sl 6 (y.sub.map cGQuery))])) h rfl rfl (fun y hy => vop_ia (l := p0) (f := cGExpr) (g := oGExpr) (k := .i64) hy cGExpr_eq (by kernel_rfl) (by kernel_rfl) (by kernel_rfl)) ?_
      clear h; intro y1 h
      refine sts_ok 3 (s' := ⟨(5, (.ptr 5 0)) :: (11, (vGExpr y1)) :: (10, (.rp [(.i .i64 y1.kind), (.i .i64 y1.op), (.b y1.not_), (.i .i64 y1.value.kind), (.i .i64 y1.value.num), (.s (bs y1.value.text)), (.s (bs y1.qual)), (.s (bs y1.name)), (.sl 10 (y1.kids.map cGExpr)), (.sl 6 (y1.sub.map cGQuery))])) :: (9, (.d (.b (decide (x8 < (p0.length : Int)))))) :: (stiWrapsOfAll_L0 p0 x3 x8).env, [(5, [(.d (.i .i64 y1.kind)), (.d (.i .i64 y1.op)), (.d (.b y1.not_)), (.d (.i .i64 y1.value.kind)), (.d (.i .i64 y1.value.num)), (.d (.s (bs y1.value.text))), (.d (.s (bs y1.qual))), (.d (.s (bs y1.name))), (.d (.sl 10 (y1.kids.map cGExpr))), (.d (.sl 6 (y1.sub.map cGQuery)))])]⟩) (by kernel_rfl) ?_
      refine nil_in ?_
      refine next_in ?_
      refine ops_in ?_
      refine sts_ok 2 (s' := ⟨(13, (vGExpr y1)) :: (12, (.d (.i .i64 x3))) :: (5, (.ptr 5 0)) :: (11, (vGExpr y1)) :: (10, (.rp [(.i .i64 y1.kind), (.i .i64 y1.op), (.b y1.not_), (.i .i64 y1.value.kind), (.i .i64 y1.value.num), (.s (bs y1.value.text)), (.s (bs y1.qual)), (.s (bs y1.name)), (.sl 10 (y1.kids.map cGExpr)), (.sl 6 (y1.sub.map cGQuery))])) :: (9, (.d (.b (decide (x8 < (p0.length : Int)))))) :: (stiWrapsOfAll_L0 p0 x3 x8).env, [(5, [(.d (.i .i64 y1.kind)), (.d (.i .i64 y1.op)), (.d (.b y1.not_)), (.d (.i .i64 y1.value.kind)), (.d (.i .i64 y1.value.num)), (.d (.s (bs y1.value.text))), (.d (.s (bs y1.qual))), (.d (.s (bs y1.name))), (.d (.sl 10 (y1.kids.map cGExpr))), (.d (.sl 6 (y1.sub.map cGQuery)))])]⟩) (by kernel_rfl) ?_
      refine call_step (m := F_iWraps y1) (args := [(vGExpr y1)]) (v' := (fun y => (.d (.i .i64 y)))) h (OK_iWraps y1) (by kernel_rfl) (by kernel_rfl) (fun _ => rfl) ?_
      clear h; intro y2 h
      refine sts_ok 2 (s' := ⟨(3, (.d (.i .i64 (IntKind.wrap .i64 (x3 + y2))))) :: (15, (.d (.i .i64 (IntKind.wrap .i64 (x3 + y2))))) :: (14, (.d (.i .i64 y2))) :: (13, (vGExpr y1)) :: (12, (.d (.i .i64 x3))) :: (5, (.ptr 5 0)) :: (11, (vGExpr y1)) :: (10, (.rp [(.i .i64 y1.kind), (.i .i64 y1.op), (.b y1.not_), (.i .i64 y1.value.kind), (.i .i64 y1.value.num), (.s (bs y1.value.text)), (.s (bs y1.qual)), (.s (bs y1.name)), (.sl 10 (y1.kids.map cGExpr)), (.sl 6 (y1.sub.map cGQuery))])) :: (9, (.d (.b (decide (x8 < (p0.length : Int)))))) :: (stiWrapsOfAll_L0 p0 x3 x8).env, [(5, [(.d (.i .i64 y1.kind)), (.d (.i .i64 y1.op)), (.d (.b y1.not_)), (.d (.i .i64 y1.value.kind)), (.d (.i .i64 y1.value.num)), (.d (.s (bs y1.value.text))), (.d (.s (bs y1.qual))), (.d (.s (bs y1.name))), (.d (.sl 10 (y1.kids.map cGExpr))), (.d (.sl 6 (y1.sub.map cGQuery)))])]⟩) (by kernel_rfl) ?_
      refine nil_in ?_
      refine blockK_norm ?_
      refine next_in ?_
      refine ops_in ?_
      refine sts_ok 2 (s' := ⟨(8, (.d (.i .i64 (IntKind.wrap .i64 (x8 + 1))))) :: (16, (.d (.i .i64 (IntKind.wrap .i64 (x8 + 1))))) :: (3, (.d (.i .i64 (IntKind.wrap .i64 (x3 + y2))))) :: (15, (.d (.i .i64 (IntKind.wrap .i64 (x3 + y2))))) :: (14, (.d (.i .i64 y2))) :: (13, (vGExpr y1)) :: (12, (.d (.i .i64 x3))) :: (5, (.ptr 5 0)) :: (11, (vGExpr y1)) :: (10, (.rp [(.i .i64 y1.kind), (.i .i64 y1.op), (.b y1.not_), (.i .i64 y1.value.kind), (.i .i64 y1.value.num), (.s (bs y1.value.text)), (.s (bs y1.qual)), (.s (bs y1.name)), (.sl 10 (y1.kids.map cGExpr)), (.sl 6 (y1.sub.map cGQuery))])) :: (9, (.d (.b (decide (x8 < (p0.length : Int)))))) :: (stiWrapsOfAll_L0 p0 x3 x8).env, [(5, [(.d (.i .i64 y1.kind)), (.d (.i .i64 y1.op)), (.d (.b y1.not_)), (.d (.i .i64 y1.value.kind)), (.d (.i .i64 y1.value.num)), (.d (.s (bs y1.value.text))), (.d (.s (bs y1.qual))), (.d (.s (bs y1.name))), (.d (.sl 10 (y1.kids.map cGExpr))), (.d (.sl 6 (y1.sub.map cGQuery)))])]⟩) (by kernel_rfl) ?_
      refine nil_in ?_
      exact loop_back (s' := stiWrapsOfAll_L0 p0 (IntKind.wrap .i64 (x3 + y2)) (IntKind.wrap .i64 (x8 + 1))) (wk_ren [] (by kernel_rfl) (er_cons (vr_same (by kernel_rfl) (by kernel_rfl)) (er_cons (vr_same (by kernel_rfl) (by kernel_rfl)) (er_cons (vr_same (by kernel_rfl) (by kernel_rfl)) (er_cons (vr_same (by kernel_rfl) (by kernel_rfl)) (er_nil))))) (br_nil)) (OK_iWrapsOfAll_L0 p0 (IntKind.wrap .i64 (x3 + y2)) (IntKind.wrap .i64 (x8 + 1)) _ h)
    · clear h; intro h
      refine exit_in ?_
      refine thenK_exit ?_
      refine thenK_exit ?_
      refine blockK_here ?_
      refine next_in ?_
      refine seq_in ?_
      refine ops_in ?_
      refine sts_ok 2 (s' := ⟨(2, (.d (.i .i64 x3))) :: (17, (.d (.i .i64 x3))) :: (9, (.d (.b (decide (x8 < (p0.length : Int)))))) :: (stiWrapsOfAll_L0 p0 x3 x8).env, (stiWrapsOfAll_L0 p0 x3 x8).bx⟩) (by kernel_rfl) ?_
      refine nil_in ?_
      refine next_in ?_
      refine ret_in ?_
      have h := Option.some.inj h; subst h
      exact ret1_step (v := (.d (.i .i64 x3))) (by kernel_rfl) (by kernel_rfl) (by kernel_rfl)
  · intro F_iWrapsOfAll F_iWraps_L0 OK_iWrapsOfAll OK_iWraps_L0 p0 r h
    refine acalls_of_fn triWraps (Nat.le_of_ble_eq_true rfl) (by simp) ?_
    show avc Try.prog aciWraps (qiWraps _) ⟨[(0, (vGExpr p0))], []⟩
    delta aciWraps
    refine seq_in ?_
    refine ops_in ?_
    refine sts_ok 2 (s' := ⟨[(2, (.d (.i .i64 0))), (1, (.ptr 1 0)), (0, (vGExpr p0))], [(1, [(.d (.i .i64 p0.kind)), (.d (.i .i64 p0.op)), (.d (.b p0.not_)), (.d (.i .i64 p0.value.kind)), (.d (.i .i64 p0.value.num)), (.d (.s (bs p0.value.text))), (.d (.s (bs p0.qual))), (.d (.s (bs p0.name))), (.d (.sl 10 (p0.kids.map cGExpr))), (.d (.sl 6 (p0.sub.map cGQuery)))])]⟩) (by kernel_rfl) ?_
    refine nil_in ?_
    refine next_in ?_
    refine seq_in ?_
    refine ops_in ?_
    refine sts_ok 2 (s' := ⟨[(8, (.d (.sl 10 (p0.kids.map cGExpr)))), (7, (.ptr 1 8)), (2, (.d (.i .i64 0))), (1, (.ptr 1 0)), (0, (vGExpr p0))], [(1, [(.d (.i .i64 p0.kind)), (.d (.i .i64 p0.op)), (.d (.b p0.not_)), (.d (.i .i64 p0.value.kind)), (.d (.i .i64 p0.value.num)), (.d (.s (bs p0.value.text))), (.d (.s (bs p0.qual))), (.d (.s (bs p0.name))), (.d (.sl 10 (p0.kids.map cGExpr))), (.d (.sl 6 (p0.sub.map cGQuery)))])]⟩) (by kernel_rfl) ?_
    refine call_step (m := F_iWrapsOfAll p0.kids) (args := [(.d (.sl 10 (p0.kids.map cGExpr)))]) (v' := (fun y => (.d (.i .i64 y)))) h (OK_iWrapsOfAll p0.kids) (by kernel_rfl) (by kernel_rfl) (fun _ => rfl) ?_
    clear h; intro y1 h
    refine sts_ok 1 (s' := ⟨[(3, (.d (.i .i64 y1))), (9, (.d (.i .i64 y1))), (8, (.d (.sl 10 (p0.kids.map cGExpr)))), (7, (.ptr 1 8)), (2, (.d (.i .i64 0))), (1, (.ptr 1 0)), (0, (vGExpr p0))], [(1, [(.d (.i .i64 p0.kind)), (.d (.i .i64 p0.op)), (.d (.b p0.not_)), (.d (.i .i64 p0.value.kind)), (.d (.i .i64 p0.value.num)), (.d (.s (bs p0.value.text))), (.d (.s (bs p0.qual))), (.d (.s (bs p0.name))), (.d (.sl 10 (p0.kids.map cGExpr))), (.d (.sl 6 (p0.sub.map cGQuery)))])]⟩) (by kernel_rfl) ?_
    refine nil_in ?_
    refine next_in ?_
    refine seq_in ?_
    refine seq_in ?_
    refine ops_in ?_
    refine sts_ok 2 (s' := ⟨[(11, (.d (.sl 10 (p0.kids.map cGExpr)))), (10, (.ptr 1 8)), (3, (.d (.i .i64 y1))), (9, (.d (.i .i64 y1))), (8, (.d (.sl 10 (p0.kids.map cGExpr)))), (7, (.ptr 1 8)), (2, (.d (.i .i64 0))), (1, (.ptr 1 0)), (0, (vGExpr p0))], [(1, [(.d (.i .i64 p0.kind)), (.d (.i .i64 p0.op)), (.d (.b p0.not_)), (.d (.i .i64 p0.value.kind)), (.d (.i .i64 p0.value.num)), (.d (.s (bs p0.value.text))), (.d (.s (bs p0.qual))), (.d (.s (bs p0.name))), (.d (.sl 10 (p0.kids.map cGExpr))), (.d (.sl 6 (p0.sub.map cGQuery)))])]⟩) (by kernel_rfl) ?_
    refine p_step (v' := (.d (.i .i64 (p0.kids.length : Int)))) rfl rfl (vop_len (sz := 10) (l := p0.kids) (f := cGExpr) (by kernel_rfl) (by kernel_rfl)) ?_
    refine sts_ok 1 (s' := ⟨[(13, (.d (.i .i64 0))), (12, (.d (.i .i64 (p0.kids.length : Int)))), (11, (.d (.sl 10 (p0.kids.map cGExpr)))), (10, (.ptr 1 8)), (3, (.d (.i .i64 y1))), (9, (.d (.i .i64 y1))), (8, (.d (.sl 10 (p0.kids.map cGExpr)))), (7, (.ptr 1 8)), (2, (.d (.i .i64 0))), (1, (.ptr 1 0)), (0, (vGExpr p0))], [(1, [(.d (.i .i64 p0.kind)), (.d (.i .i64 p0.op)), (.d (.b p0.not_)), (.d (.i .i64 p0.value.kind)), (.d (.i .i64 p0.value.num)), (.d (.s (bs p0.value.text))), (.d (.s (bs p0.qual))), (.d (.s (bs p0.name))), (.d (.sl 10 (p0.kids.map cGExpr))), (.d (.sl 6 (p0.sub.map cGQuery)))])]⟩) (by kernel_rfl) ?_
    refine nil_in ?_
    refine next_in ?_
    refine block_in ?_
    exact loop_go (s' := stiWraps_L0 p0 y1 0) (wk_ren [] (by kernel_rfl) (er_cons (vr_same (by kernel_rfl) (by kernel_rfl)) (er_cons (vr_same (by kernel_rfl) (by kernel_rfl)) (er_cons (vr_same (by kernel_rfl) (by kernel_rfl)) (er_cons (vr_same (by kernel_rfl) (by kernel_rfl)) (er_nil))))) (br_same (by kernel_rfl) (by kernel_rfl) (br_nil))) (OK_iWraps_L0 p0 y1 0 _ h)
  · intro F_iWraps_L2 F_iWraps_J1 OK_iWraps_L2 OK_iWraps_J1 p0 x3 x13 r h
    delta aciWraps_L0
    refine loop_unroll ?_
    refine seq_in ?_
    refine ops_in ?_
    refine sts_ok 1 (s' := ⟨(14, (.d (.b (decide (x13 < (p0.kids.length : Int)))))) :: (stiWraps_L0 p0 x3 x13).env, (stiWraps_L0 p0 x3 x13).bx⟩) (by kernel_rfl) ?_
    refine nil_in ?_
    refine next_in ?_
    refine seq_in ?_
    refine cond_step h (by kernel_rfl) ?_ ?_
    · clear h; intro h
      refine skip_in ?_
      refine next_in ?_
      refine seq_in ?_
      refine block_in ?_
      refine seq_in ?_
      refine ops_in ?_
      refine sts_ok 2 (s' := ⟨(4, (.d (.i .i64 x13))) :: (15, (.d (.i .i64 x13))) :: (14, (.d (.b (decide (x13 < (p0.kids.length : Int)))))) :: (stiWraps_L0 p0 x3 x13).env, (stiWraps_L0 p0 x3 x13).bx⟩) (by kernel_rfl) ?_
      refine nil_in ?_
      refine next_in ?_
      refine seq_in ?_
      refine ops_in ?_
      refine sts_ok 2 (s' := ⟨(17, (.d (.i .i64 x13))) :: (16, (vGExpr p0)) :: (4, (.d (.i .i64 x13))) :: (15, (.d (.i .i64 x13))) :: (14, (.d (.b (decide (x13 < (p0.kids.length : Int)))))) :: (stiWraps_L0 p0 x3 x13).env, (stiWraps_L0 p0 x3 x13).bx⟩) (by kernel_rfl) ?_
      refine call_step (m := iWrapped p0 x13) (args := [(vGExpr p0), (.d (.i .i64 x13))]) (v' := (fun y => (.d (.b y)))) h (OK_iWrapped p0 x13) (by kernel_rfl) (by kernel_rfl) (fun _ => rfl) ?_
      clear h; intro y2 h
      refine nil_in ?_
      refine next_in ?_
      refine cond_step h (by kernel_rfl) ?_ ?_
      · clear h; intro h
        refine ops_in ?_
        refine sts_ok 3 (s' := ⟨(3, (.d (.i .i64 (IntKind.wrap .i64 (x3 + 1))))) :: (20, (.d (.i .i64 (IntKind.wrap .i64 (x3 + 1))))) :: (19, (.d (.i .i64 x3))) :: (18, (.d (.b y2))) :: (17, (.d (.i .i64 x13))) :: (16, (vGExpr p0)) :: (4, (.d (.i .i64 x13))) :: (15, (.d (.i .i64 x13))) :: (14, (.d (.b (decide (x13 < (p0.kids.length : Int)))))) :: (stiWraps_L0 p0 x3 x13).env, (stiWraps_L0 p0 x3 x13).bx⟩) (by kernel_rfl) ?_
        refine nil_in ?_
        refine blockK_norm ?_
        exact next_step (s' := stiWraps_J1 p0 x13 (IntKind.wrap .i64 (x3 + 1))) (wk_ren [] (by kernel_rfl) (er_cons (vr_same (by kernel_rfl) (by kernel_rfl)) (er_cons (vr_same (by kernel_rfl) (by kernel_rfl)) (er_cons (vr_same (by kernel_rfl) (by kernel_rfl)) (er_cons (vr_same (by kernel_rfl) (by kernel_rfl)) (er_nil))))) (br_same (by kernel_rfl) (by kernel_rfl) (br_nil))) (OK_iWraps_J1 p0 x13 (IntKind.wrap .i64 (x3 + 1)) _ h)
      · clear h; intro h
        refine skip_in ?_
        refine blockK_norm ?_
        exact next_step (s' := stiWraps_J1 p0 x13 x3) (wk_ren [] (by kernel_rfl) (er_cons (vr_same (by kernel_rfl) (by kernel_rfl)) (er_cons (vr_same (by kernel_rfl) (by kernel_rfl)) (er_cons (vr_same (by kernel_rfl) (by kernel_rfl)) (er_cons (vr_same (by kernel_rfl) (by kernel_rfl)) (er_nil))))) (br_same (by kernel_rfl) (by kernel_rfl) (br_nil))) (OK_iWraps_J1 p0 x13 x3 _ h)
    · clear h; intro h
      refine exit_in ?_
      refine thenK_exit ?_
      refine thenK_exit ?_
      refine blockK_here ?_
      refine next_in ?_
      refine seq_in ?_
      refine seq_in ?_
      refine ops_in ?_
      refine sts_ok 2 (s' := ⟨(23, (.d (.sl 6 (p0.sub.map cGQuery)))) :: (22, (.ptr 1 9)) :: (14, (.d (.b (decide (x13 < (p0.kids.length : Int)))))) :: (stiWraps_L0 p0 x3 x13).env, (stiWraps_L0 p0 x3 x13).bx⟩) (by kernel_rfl) ?_
      refine p_step (v' := (.d (.i .i64 (p0.sub.length : Int)))) rfl rfl (vop_len (sz := 6) (l := p0.sub) (f := cGQuery) (by kernel_rfl) (by kernel_rfl)) ?_
      refine sts_ok 1 (s' := ⟨(25, (.d (.i .i64 0))) :: (24, (.d (.i .i64 (p0.sub.length : Int)))) :: (23, (.d (.sl 6 (p0.sub.map cGQuery)))) :: (22, (.ptr 1 9)) :: (14, (.d (.b (decide (x13 < (p0.kids.length : Int)))))) :: (stiWraps_L0 p0 x3 x13).env, (stiWraps_L0 p0 x3 x13).bx⟩) (by kernel_rfl) ?_
      refine nil_in ?_
      refine next_in ?_
      refine block_in ?_
      exact loop_go (s' := stiWraps_L2 p0 x3 0) (wk_ren [] (by kernel_rfl) (er_cons (vr_same (by kernel_rfl) (by kernel_rfl)) (er_cons (vr_same (by kernel_rfl) (by kernel_rfl)) (er_cons (vr_same (by kernel_rfl) (by kernel_rfl)) (er_cons (vr_same (by kernel_rfl) (by kernel_rfl)) (er_nil))))) (br_nil)) (OK_iWraps_L2 p0 x3 0 _ h)
  · intro F_iWraps_L0 OK_iWraps_L0 p0 x13 x3_3 r h
    delta aciWraps_J1
    refine ops_in ?_
    refine sts_ok 2 (s' := ⟨(13, (.d (.i .i64 (IntKind.wrap .i64 (x13 + 1))))) :: (21, (.d (.i .i64 (IntKind.wrap .i64 (x13 + 1))))) :: (stiWraps_J1 p0 x13 x3_3).env, (stiWraps_J1 p0 x13 x3_3).bx⟩) (by kernel_rfl) ?_
    refine nil_in ?_
    exact loop_back (s' := stiWraps_L0 p0 x3_3 (IntKind.wrap .i64 (x13 + 1))) (wk_ren [] (by kernel_rfl) (er_cons (vr_same (by kernel_rfl) (by kernel_rfl)) (er_cons (vr_same (by kernel_rfl) (by kernel_rfl)) (er_cons (vr_same (by kernel_rfl) (by kernel_rfl)) (er_cons (vr_same (by kernel_rfl) (by kernel_rfl)) (er_nil))))) (br_same (by kernel_rfl) (by kernel_rfl) (br_nil))) (OK_iWraps_L0 p0 x3_3 (IntKind.wrap .i64 (x13 + 1)) _ h)
theorem OK_iWraps_L2 (p0 : GExpr) (x3_4 : Int) (x25 : Int) (r : Int) (h : iWraps_L2 p0 x3_4 x25 = some r) : avc Try.prog aciWraps_L2 (qiWraps_4 r) (stiWraps_L2 p0 x3_4 x25) := (OKs_iWraps_L2).1 p0 x3_4 x25 r h
theorem OK_iWrapsIn (p0 : GQuery) : FOk Try.prog 25 [(vGQuery p0)] (fun y => (.d (.i .i64 y))) (iWrapsIn p0) := fun r h => (OKs_iWraps_L2).2.1 p0 r h
theorem OK_iWrapsOfAll (p0 : (List GExpr)) : FOk Try.prog 75 [(.d (.sl 10 (p0.map cGExpr)))] (fun y => (.d (.i .i64 y))) (iWrapsOfAll p0) := fun r h => (OKs_iWraps_L2).2.2.1 p0 r h
theorem OK_iWrapsOfAll_L0 (p0 : (List GExpr)) (x3 : Int) (x8 : Int) (r : Int) (h : iWrapsOfAll_L0 p0 x3 x8 = some r) : avc Try.prog aciWrapsOfAll_L0 (qiWrapsOfAll_1 r) (stiWrapsOfAll_L0 p0 x3 x8) := (OKs_iWraps_L2).2.2.2.1 p0 x3 x8 r h
theorem OK_iWraps (p0 : GExpr) : FOk Try.prog 22 [(vGExpr p0)] (fun y => (.d (.i .i64 y))) (iWraps p0) := fun r h => (OKs_iWraps_L2).2.2.2.2.1 p0 r h
theorem OK_iWraps_L0 (p0 : GExpr) (x3 : Int) (x13 : Int) (r : Int) (h : iWraps_L0 p0 x3 x13 = some r) : avc Try.prog aciWraps_L0 (qiWraps_1 r) (stiWraps_L0 p0 x3 x13) := (OKs_iWraps_L2).2.2.2.2.2.1 p0 x3 x13 r h
theorem OK_iWraps_J1 (p0 : GExpr) (x13 : Int) (x3_3 : Int) (r : Int) (h : iWraps_J1 p0 x13 x3_3 = some r) : avc Try.prog aciWraps_J1 (qiWraps_2 r) (stiWraps_J1 p0 x13 x3_3) := (OKs_iWraps_L2).2.2.2.2.2.2 p0 x13 x3_3 r h
theorem OKs_sL7Exprs_L3 (p0 : GQuery) : (∀ (x3_9 : (List GExpr)) (x6 : Int) (r : (List GExpr)), sL7Exprs_L3 p0 x3_9 x6 = some r → avc Try.prog acsL7Exprs_L3 (qsL7Exprs_6 r) (stsL7Exprs_L3 p0 x3_9 x6)) := by
  refine sL7Exprs_L3.partial_correctness p0 (fun x3_9 x6 r => avc Try.prog acsL7Exprs_L3 (qsL7Exprs_6 r) (stsL7Exprs_L3 p0 x3_9 x6)) ?_
  · intro F_sL7Exprs_L3 OK_sL7Exprs_L3 x3_9 x6 r h
    delta acsL7Exprs_L3
    refine loop_unroll ?_
    refine seq_in ?_
    refine seq_in ?_
    refine ops_in ?_
    refine sts_ok 3 (s' := ⟨(52, (.d (.sl 11 (p0.order.map cGSortKey)))) :: (51, (.ptr 1 4)) :: (50, (.d (.i .i64 x6))) :: (stsL7Exprs_L3 p0 x3_9 x6).env, (stsL7Exprs_L3 p0 x3_9 x6).bx⟩) (by kernel_rfl) ?_
    refine p_step (v' := (.d (.i .i64 (p0.order.length : Int)))) rfl rfl (vop_len (sz := 11) (l := p0.order) (f := cGSortKey) (by kernel_rfl) (by kernel_rfl)) ?_
    refine sts_ok 1 (s' := ⟨(54, (.d (.b (decide (x6 < (p0.order.length : Int)))))) :: (53, (.d (.i .i64 (p0.order.length : Int)))) :: (52, (.d (.sl 11 (p0.order.map cGSortKey)))) :: (51, (.ptr 1 4)) :: (50, (.d (.i .i64 x6))) :: (stsL7Exprs_L3 p0 x3_9 x6).env, (stsL7Exprs_L3 p0 x3_9 x6).bx⟩) (by kernel_rfl) ?_
    refine nil_in ?_
    refine next_in ?_
    refine cond_step h (by kernel_rfl) ?_ ?_
    · clear h; intro h
      refine skip_in ?_
      refine next_in ?_
      refine seq_in ?_
      refine block_in ?_
      refine ops_in ?_
      refine sts_ok 4 (s' := ⟨(60, (.d (.i .i64 x6))) :: (59, (.d (.sl 11 (p0.order.map cGSortKey)))) :: (58, (.ptr 1 4)) :: (57, (.osl 3 49 10 (x3_9.map cGExpr))) :: (54, (.d (.b (decide (x6 < (p0.order.length : Int)))))) :: (53, (.d (.i .i64 (p0.order.length : Int)))) :: (52, (.d (.sl 11 (p0.order.map cGSortKey)))) :: (51, (.ptr 1 4)) :: (50, (.d (.i .i64 x6))) :: (stsL7Exprs_L3 p0 x3_9 x6).env, (stsL7Exprs_L3 p0 x3_9 x6).bx⟩) (by kernel_rfl) ?_
      refine v_step (m := idx p0.order x6) (v' := fun y => (.rp [(.i .i64 y.expr.kind), (.i .i64 y.expr.op), (.b y.expr.not_), (.i .i64 y.expr.value.kind), (.i .i64 y.expr.value.num), (.s (bs y.expr.value.text)), (.s (bs y.expr.qual)), (.s (bs y.expr.name)), (.sl 10 (y.expr.kids.map cGExpr)), (.sl 6 (y.expr.sub.map cGQuery)), (.b y.desc)])) h rfl rfl (fun y hy => vop_ia (l := p0.order) (f := cGSortKey) (g := oGSortKey) (k := .i64) hy cGSortKey_eq (by kernel_rfl) (by kernel_rfl) (by kernel_rfl)) ?_
      clear h; intro y10 h
      refine sts_ok 2 (s' := ⟨(63, (vGExpr y10.expr)) :: (62, (.rp [(.i .i64 y10.expr.kind), (.i .i64 y10.expr.op), (.b y10.expr.not_), (.i .i64 y10.expr.value.kind), (.i .i64 y10.expr.value.num), (.s (bs y10.expr.value.text)), (.s (bs y10.expr.qual)), (.s (bs y10.expr.name)), (.sl 10 (y10.expr.kids.map cGExpr)), (.sl 6 (y10.expr.sub.map cGQuery)), (.b y10.desc)])) :: (61, (.rp [(.i .i64 y10.expr.kind), (.i .i64 y10.expr.op), (.b y10.expr.not_), (.i .i64 y10.expr.value.kind), (.i .i64 y10.expr.value.num), (.s (bs y10.expr.value.text)), (.s (bs y10.expr.qual)), (.s (bs y10.expr.name)), (.sl 10 (y10.expr.kids.map cGExpr)), (.sl 6 (y10.expr.sub.map cGQuery)), (.b y10.desc)])) :: (60, (.d (.i .i64 x6))) :: (59, (.d (.sl 11 (p0.order.map cGSortKey)))) :: (58, (.ptr 1 4)) :: (57, (.osl 3 49 10 (x3_9.map cGExpr))) :: (54, (.d (.b (decide (x6 < (p0.order.length : Int)))))) :: (53, (.d (.i .i64 (p0.order.length : Int)))) :: (52, (.d (.sl 11 (p0.order.map cGSortKey)))) :: (51, (.ptr 1 4)) :: (50, (.d (.i .i64 x6))) :: (stsL7Exprs_L3 p0 x3_9 x6).env, (stsL7Exprs_L3 p0 x3_9 x6).bx⟩) (by kernel_rfl) ?_
      refine bsl_step (l := ([y10.expr] : List GExpr)) (f := cGExpr) (g := oGExpr) (by kernel_rfl) cGExpr_eq (by kernel_rfl) ?_
      refine app_step (t := 3) (l := x3_9) (m := ([y10.expr] : List GExpr)) (f := cGExpr) (S' := fun y => ⟨[(65, (.osl 65 49 10 (y.map cGExpr))), (64, (.osl 64 49 10 (([y10.expr] : List GExpr).map cGExpr))), (63, (vGExpr y10.expr)), (62, (.rp [(.i .i64 y10.expr.kind), (.i .i64 y10.expr.op), (.b y10.expr.not_), (.i .i64 y10.expr.value.kind), (.i .i64 y10.expr.value.num), (.s (bs y10.expr.value.text)), (.s (bs y10.expr.qual)), (.s (bs y10.expr.name)), (.sl 10 (y10.expr.kids.map cGExpr)), (.sl 6 (y10.expr.sub.map cGQuery)), (.b y10.desc)])), (61, (.rp [(.i .i64 y10.expr.kind), (.i .i64 y10.expr.op), (.b y10.expr.not_), (.i .i64 y10.expr.value.kind), (.i .i64 y10.expr.value.num), (.s (bs y10.expr.value.text)), (.s (bs y10.expr.qual)), (.s (bs y10.expr.name)), (.sl 10 (y10.expr.kids.map cGExpr)), (.sl 6 (y10.expr.sub.map cGQuery)), (.b y10.desc)])), (60, (.d (.i .i64 x6))), (59, (.d (.sl 11 (p0.order.map cGSortKey)))), (58, (.ptr 1 4)), (57, (.d (.sl 10 (x3_9.map cGExpr)))), (54, (.d (.b (decide (x6 < (p0.order.length : Int)))))), (53, (.d (.i .i64 (p0.order.length : Int)))), (52, (.d (.sl 11 (p0.order.map cGSortKey)))), (51, (.ptr 1 4)), (50, (.d (.i .i64 x6))), (1, (.ptr 1 0)), (3, (.d (.sl 10 (x3_9.map cGExpr)))), (6, (.d (.i .i64 x6)))], [(1, [(.d (.b p0.distinct)), (.d (.sl 13 (p0.items.map cGItem))), (.d (.sl 3 (p0.from_.map cGSource))), (.d (.sl 10 (p0.where_.map cGExpr))), (.d (.sl 11 (p0.order.map cGSortKey))), (.d (.i .i64 p0.limit))])]⟩) h (by kernel_rfl) (by kernel_rfl) (by kernel_rfl) (by kernel_rfl) (fun y => by kernel_rfl) ?_
      clear h; intro y11 h
      refine sts_ok 1 (s' := ⟨[(3, (.osl 3 49 10 (y11.map cGExpr))), (65, (.d (.sl 10 (y11.map cGExpr)))), (64, (.osl 64 49 10 (([y10.expr] : List GExpr).map cGExpr))), (63, (vGExpr y10.expr)), (62, (.rp [(.i .i64 y10.expr.kind), (.i .i64 y10.expr.op), (.b y10.expr.not_), (.i .i64 y10.expr.value.kind), (.i .i64 y10.expr.value.num), (.s (bs y10.expr.value.text)), (.s (bs y10.expr.qual)), (.s (bs y10.expr.name)), (.sl 10 (y10.expr.kids.map cGExpr)), (.sl 6 (y10.expr.sub.map cGQuery)), (.b y10.desc)])), (61, (.rp [(.i .i64 y10.expr.kind), (.i .i64 y10.expr.op), (.b y10.expr.not_), (.i .i64 y10.expr.value.kind), (.i .i64 y10.expr.value.num), (.s (bs y10.expr.value.text)), (.s (bs y10.expr.qual)), (.s (bs y10.expr.name)), (.sl 10 (y10.expr.kids.map cGExpr)), (.sl 6 (y10.expr.sub.map cGQuery)), (.b y10.desc)])), (60, (.d (.i .i64 x6))), (59, (.d (.sl 11 (p0.order.map cGSortKey)))), (58, (.ptr 1 4)), (57, (.d (.sl 10 (x3_9.map cGExpr)))), (54, (.d (.b (decide (x6 < (p0.order.length : Int)))))), (53, (.d (.i .i64 (p0.order.length : Int)))), (52, (.d (.sl 11 (p0.order.map cGSortKey)))), (51, (.ptr 1 4)), (50, (.d (.i .i64 x6))), (1, (.ptr 1 0)), (3, (.d (.sl 10 (x3_9.map cGExpr)))), (6, (.d (.i .i64 x6)))], [(1, [(.d (.b p0.distinct)), (.d (.sl 13 (p0.items.map cGItem))), (.d (.sl 3 (p0.from_.map cGSource))), (.d (.sl 10 (p0.where_.map cGExpr))), (.d (.sl 11 (p0.order.map cGSortKey))), (.d (.i .i64 p0.limit))])]⟩) (by kernel_rfl) ?_
      refine nil_in ?_
      refine blockK_norm ?_
      refine next_in ?_
      refine ops_in ?_
      refine sts_ok 3 (s' := ⟨[(6, (.d (.i .i64 (IntKind.wrap .i64 (x6 + 1))))), (56, (.d (.i .i64 (IntKind.wrap .i64 (x6 + 1))))), (55, (.d (.i .i64 x6))), (3, (.osl 3 49 10 (y11.map cGExpr))), (65, (.d (.sl 10 (y11.map cGExpr)))), (64, (.osl 64 49 10 (([y10.expr] : List GExpr).map cGExpr))), (63, (vGExpr y10.expr)), (62, (.rp [(.i .i64 y10.expr.kind), (.i .i64 y10.expr.op), (.b y10.expr.not_), (.i .i64 y10.expr.value.kind), (.i .i64 y10.expr.value.num), (.s (bs y10.expr.value.text)), (.s (bs y10.expr.qual)), (.s (bs y10.expr.name)), (.sl 10 (y10.expr.kids.map cGExpr)), (.sl 6 (y10.expr.sub.map cGQuery)), (.b y10.desc)])), (61, (.rp [(.i .i64 y10.expr.kind), (.i .i64 y10.expr.op), (.b y10.expr.not_), (.i .i64 y10.expr.value.kind), (.i .i64 y10.expr.value.num), (.s (bs y10.expr.value.text)), (.s (bs y10.expr.qual)), (.s (bs y10.expr.name)), (.sl 10 (y10.expr.kids.map cGExpr)), (.sl 6 (y10.expr.sub.map cGQuery)), (.b y10.desc)])), (60, (.d (.i .i64 x6))), (59, (.d (.sl 11 (p0.order.map cGSortKey)))), (58, (.ptr 1 4)), (57, (.d (.sl 10 (x3_9.map cGExpr)))), (54, (.d (.b (decide (x6 < (p0.order.length : Int)))))), (53, (.d (.i .i64 (p0.order.length : Int)))), (52, (.d (.sl 11 (p0.order.map cGSortKey)))), (51, (.ptr 1 4)), (50, (.d (.i .i64 x6))), (1, (.ptr 1 0)), (3, (.d (.sl 10 (x3_9.map cGExpr)))), (6, (.d (.i .i64 x6)))], [(1, [(.d (.b p0.distinct)), (.d (.sl 13 (p0.items.map cGItem))), (.d (.sl 3 (p0.from_.map cGSource))), (.d (.sl 10 (p0.where_.map cGExpr))), (.d (.sl 11 (p0.order.map cGSortKey))), (.d (.i .i64 p0.limit))])]⟩) (by kernel_rfl) ?_
      refine nil_in ?_
      exact loop_back (s' := stsL7Exprs_L3 p0 y11 (IntKind.wrap .i64 (x6 + 1))) (wk_ren [(3, .old 3)] (by kernel_rfl) (er_cons (vr_same (by kernel_rfl) (by kernel_rfl)) (er_cons (vr_old (t := 3) (by kernel_rfl) (by kernel_rfl)) (er_cons (vr_same (by kernel_rfl) (by kernel_rfl)) (er_nil)))) (br_same (by kernel_rfl) (by kernel_rfl) (br_nil))) (OK_sL7Exprs_L3 y11 (IntKind.wrap .i64 (x6 + 1)) _ h)
    · clear h; intro h
      refine exit_in ?_
      refine thenK_exit ?_
      refine thenK_exit ?_
      refine blockK_here ?_
      refine next_in ?_
      refine seq_in ?_
      refine ops_in ?_
      refine sts_ok 2 (s' := ⟨[(2, (.osl 2 49 10 (x3_9.map cGExpr))), (66, (.d (.sl 10 (x3_9.map cGExpr)))), (54, (.d (.b (decide (x6 < (p0.order.length : Int)))))), (53, (.d (.i .i64 (p0.order.length : Int)))), (52, (.d (.sl 11 (p0.order.map cGSortKey)))), (51, (.ptr 1 4)), (50, (.d (.i .i64 x6))), (1, (.ptr 1 0)), (3, (.d (.sl 10 (x3_9.map cGExpr)))), (6, (.d (.i .i64 x6)))], [(1, [(.d (.b p0.distinct)), (.d (.sl 13 (p0.items.map cGItem))), (.d (.sl 3 (p0.from_.map cGSource))), (.d (.sl 10 (p0.where_.map cGExpr))), (.d (.sl 11 (p0.order.map cGSortKey))), (.d (.i .i64 p0.limit))])]⟩) (by kernel_rfl) ?_
      refine nil_in ?_
      refine next_in ?_
      refine ret_wk (s' := ⟨[(2, (.osl 2000000 49 10 (x3_9.map cGExpr)))], []⟩) (wk_ren [(2000000, .old 2)] (by kernel_rfl) (er_cons (vr_old (t := 2) (by kernel_rfl) (by kernel_rfl)) (er_nil)) (br_nil)) ?_
      have h := Option.some.inj h; subst h
      exact ret1_step (v := (.osl 2000000 49 10 (x3_9.map cGExpr))) (by kernel_rfl) (by kernel_rfl) ⟨by kernel_rfl, trivial⟩
theorem OK_sL7Exprs_L3 (p0 : GQuery) (x3_9 : (List GExpr)) (x6 : Int) (r : (List GExpr)) (h : sL7Exprs_L3 p0 x3_9 x6 = some r) : avc Try.prog acsL7Exprs_L3 (qsL7Exprs_6 r) (stsL7Exprs_L3 p0 x3_9 x6) := (OKs_sL7Exprs_L3 p0) x3_9 x6 r h
theorem OKs_sL7Exprs_L2 (p0 : GQuery) : (∀ (x3_5 : (List GExpr)) (x5 : Int) (r : (List GExpr)), sL7Exprs_L2 p0 x3_5 x5 = some r → avc Try.prog acsL7Exprs_L2 (qsL7Exprs_4 r) (stsL7Exprs_L2 p0 x3_5 x5)) := by
  refine sL7Exprs_L2.partial_correctness p0 (fun x3_5 x5 r => avc Try.prog acsL7Exprs_L2 (qsL7Exprs_4 r) (stsL7Exprs_L2 p0 x3_5 x5)) ?_
  · intro F_sL7Exprs_L2 OK_sL7Exprs_L2 x3_5 x5 r h
    delta acsL7Exprs_L2
    refine loop_unroll ?_
    refine seq_in ?_
    refine seq_in ?_
    refine ops_in ?_
    refine sts_ok 3 (s' := ⟨(33, (.d (.sl 3 (p0.from_.map cGSource)))) :: (32, (.ptr 1 2)) :: (31, (.d (.i .i64 x5))) :: (stsL7Exprs_L2 p0 x3_5 x5).env, (stsL7Exprs_L2 p0 x3_5 x5).bx⟩) (by kernel_rfl) ?_
    refine p_step (v' := (.d (.i .i64 (p0.from_.length : Int)))) rfl rfl (vop_len (sz := 3) (l := p0.from_) (f := cGSource) (by kernel_rfl) (by kernel_rfl)) ?_
    refine sts_ok 1 (s' := ⟨(35, (.d (.b (decide (x5 < (p0.from_.length : Int)))))) :: (34, (.d (.i .i64 (p0.from_.length : Int)))) :: (33, (.d (.sl 3 (p0.from_.map cGSource)))) :: (32, (.ptr 1 2)) :: (31, (.d (.i .i64 x5))) :: (stsL7Exprs_L2 p0 x3_5 x5).env, (stsL7Exprs_L2 p0 x3_5 x5).bx⟩) (by kernel_rfl) ?_
    refine nil_in ?_
    refine next_in ?_
    refine cond_step h (by kernel_rfl) ?_ ?_
    · clear h; intro h
      refine skip_in ?_
      refine next_in ?_
      refine seq_in ?_
      refine block_in ?_
      refine ops_in ?_
      refine sts_ok 4 (s' := ⟨(41, (.d (.i .i64 x5))) :: (40, (.d (.sl 3 (p0.from_.map cGSource)))) :: (39, (.ptr 1 2)) :: (38, (.osl 3 49 10 (x3_5.map cGExpr))) :: (35, (.d (.b (decide (x5 < (p0.from_.length : Int)))))) :: (34, (.d (.i .i64 (p0.from_.length : Int)))) :: (33, (.d (.sl 3 (p0.from_.map cGSource)))) :: (32, (.ptr 1 2)) :: (31, (.d (.i .i64 x5))) :: (stsL7Exprs_L2 p0 x3_5 x5).env, (stsL7Exprs_L2 p0 x3_5 x5).bx⟩) (by kernel_rfl) ?_
      refine v_step (m := idx p0.from_ x5) (v' := fun y => (.rp [(.s (bs y.table)), (.s (bs y.as_)), (.sl 10 (y.on_.map cGExpr))])) h rfl rfl (fun y hy => vop_ia (l := p0.from_) (f := cGSource) (g := oGSource) (k := .i64) hy cGSource_eq (by kernel_rfl) (by kernel_rfl) (by kernel_rfl)) ?_
      clear h; intro y6 h
      refine sts_ok 2 (s' := ⟨(44, (.d (.sl 10 (y6.on_.map cGExpr)))) :: (43, (.rp [(.sl 10 (y6.on_.map cGExpr))])) :: (42, (.rp [(.s (bs y6.table)), (.s (bs y6.as_)), (.sl 10 (y6.on_.map cGExpr))])) :: (41, (.d (.i .i64 x5))) :: (40, (.d (.sl 3 (p0.from_.map cGSource)))) :: (39, (.ptr 1 2)) :: (38, (.osl 3 49 10 (x3_5.map cGExpr))) :: (35, (.d (.b (decide (x5 < (p0.from_.length : Int)))))) :: (34, (.d (.i .i64 (p0.from_.length : Int)))) :: (33, (.d (.sl 3 (p0.from_.map cGSource)))) :: (32, (.ptr 1 2)) :: (31, (.d (.i .i64 x5))) :: (stsL7Exprs_L2 p0 x3_5 x5).env, (stsL7Exprs_L2 p0 x3_5 x5).bx⟩) (by kernel_rfl) ?_
      refine app_step (t := 3) (l := x3_5) (m := y6.on_) (f := cGExpr) (S' := fun y => ⟨[(45, (.osl 45 49 10 (y.map cGExpr))), (44, (.d (.sl 10 (y6.on_.map cGExpr)))), (43, (.rp [(.sl 10 (y6.on_.map cGExpr))])), (42, (.rp [(.s (bs y6.table)), (.s (bs y6.as_)), (.sl 10 (y6.on_.map cGExpr))])), (41, (.d (.i .i64 x5))), (40, (.d (.sl 3 (p0.from_.map cGSource)))), (39, (.ptr 1 2)), (38, (.d (.sl 10 (x3_5.map cGExpr)))), (35, (.d (.b (decide (x5 < (p0.from_.length : Int)))))), (34, (.d (.i .i64 (p0.from_.length : Int)))), (33, (.d (.sl 3 (p0.from_.map cGSource)))), (32, (.ptr 1 2)), (31, (.d (.i .i64 x5))), (1, (.ptr 1 0)), (3, (.d (.sl 10 (x3_5.map cGExpr)))), (5, (.d (.i .i64 x5)))], [(1, [(.d (.b p0.distinct)), (.d (.sl 13 (p0.items.map cGItem))), (.d (.sl 3 (p0.from_.map cGSource))), (.d (.sl 10 (p0.where_.map cGExpr))), (.d (.sl 11 (p0.order.map cGSortKey))), (.d (.i .i64 p0.limit))])]⟩) h (by kernel_rfl) (by kernel_rfl) (by kernel_rfl) (by kernel_rfl) (fun y => by kernel_rfl) ?_
      clear h; intro y7 h
      refine sts_ok 1 (s' := ⟨[(3, (.osl 3 49 10 (y7.map cGExpr))), (45, (.d (.sl 10 (y7.map cGExpr)))), (44, (.d (.sl 10 (y6.on_.map cGExpr)))), (43, (.rp [(.sl 10 (y6.on_.map cGExpr))])), (42, (.rp [(.s (bs y6.table)), (.s (bs y6.as_)), (.sl 10 (y6.on_.map cGExpr))])), (41, (.d (.i .i64 x5))), (40, (.d (.sl 3 (p0.from_.map cGSource)))), (39, (.ptr 1 2)), (38, (.d (.sl 10 (x3_5.map cGExpr)))), (35, (.d (.b (decide (x5 < (p0.from_.length : Int)))))), (34, (.d (.i .i64 (p0.from_.length : Int)))), (33, (.d (.sl 3 (p0.from_.map cGSource)))), (32, (.ptr 1 2)), (31, (.d (.i .i64 x5))), (1, (.ptr 1 0)), (3, (.d (.sl 10 (x3_5.map cGExpr)))), (5, (.d (.i .i64 x5)))], [(1, [(.d (.b p0.distinct)), (.d (.sl 13 (p0.items.map cGItem))), (.d (.sl 3 (p0.from_.map cGSource))), (.d (.sl 10 (p0.where_.map cGExpr))), (.d (.sl 11 (p0.order.map cGSortKey))), (.d (.i .i64 p0.limit))])]⟩) (by kernel_rfl) ?_
      refine nil_in ?_
      refine blockK_norm ?_
      refine next_in ?_
      refine ops_in ?_
      refine sts_ok 3 (s' := ⟨[(5, (.d (.i .i64 (IntKind.wrap .i64 (x5 + 1))))), (37, (.d (.i .i64 (IntKind.wrap .i64 (x5 + 1))))), (36, (.d (.i .i64 x5))), (3, (.osl 3 49 10 (y7.map cGExpr))), (45, (.d (.sl 10 (y7.map cGExpr)))), (44, (.d (.sl 10 (y6.on_.map cGExpr)))), (43, (.rp [(.sl 10 (y6.on_.map cGExpr))])), (42, (.rp [(.s (bs y6.table)), (.s (bs y6.as_)), (.sl 10 (y6.on_.map cGExpr))])), (41, (.d (.i .i64 x5))), (40, (.d (.sl 3 (p0.from_.map cGSource)))), (39, (.ptr 1 2)), (38, (.d (.sl 10 (x3_5.map cGExpr)))), (35, (.d (.b (decide (x5 < (p0.from_.length : Int)))))), (34, (.d (.i .i64 (p0.from_.length : Int)))), (33, (.d (.sl 3 (p0.from_.map cGSource)))), (32, (.ptr 1 2)), (31, (.d (.i .i64 x5))), (1, (.ptr 1 0)), (3, (.d (.sl 10 (x3_5.map cGExpr)))), (5, (.d (.i .i64 x5)))], [(1, [(.d (.b p0.distinct)), (.d (.sl 13 (p0.items.map cGItem))), (.d (.sl 3 (p0.from_.map cGSource))), (.d (.sl 10 (p0.where_.map cGExpr))), (.d (.sl 11 (p0.order.map cGSortKey))), (.d (.i .i64 p0.limit))])]⟩) (by kernel_rfl) ?_
      refine nil_in ?_
      exact loop_back (s' := stsL7Exprs_L2 p0 y7 (IntKind.wrap .i64 (x5 + 1))) (wk_ren [(3, .old 3)] (by kernel_rfl) (er_cons (vr_same (by kernel_rfl) (by kernel_rfl)) (er_cons (vr_old (t := 3) (by kernel_rfl) (by kernel_rfl)) (er_cons (vr_same (by kernel_rfl) (by kernel_rfl)) (er_nil)))) (br_same (by kernel_rfl) (by kernel_rfl) (br_nil))) (OK_sL7Exprs_L2 y7 (IntKind.wrap .i64 (x5 + 1)) _ h)
    · clear h; intro h
      refine exit_in ?_
      refine thenK_exit ?_
      refine thenK_exit ?_
      refine blockK_here ?_
      refine next_in ?_
      refine seq_in ?_
      refine ops_in ?_
      refine sts_ok 3 (s' := ⟨(48, (.d (.sl 10 (p0.where_.map cGExpr)))) :: (47, (.ptr 1 3)) :: (46, (.osl 3 49 10 (x3_5.map cGExpr))) :: (35, (.d (.b (decide (x5 < (p0.from_.length : Int)))))) :: (34, (.d (.i .i64 (p0.from_.length : Int)))) :: (33, (.d (.sl 3 (p0.from_.map cGSource)))) :: (32, (.ptr 1 2)) :: (31, (.d (.i .i64 x5))) :: (stsL7Exprs_L2 p0 x3_5 x5).env, (stsL7Exprs_L2 p0 x3_5 x5).bx⟩) (by kernel_rfl) ?_
      refine app_step (t := 3) (l := x3_5) (m := p0.where_) (f := cGExpr) (S' := fun y => ⟨[(49, (.osl 49 49 10 (y.map cGExpr))), (48, (.d (.sl 10 (p0.where_.map cGExpr)))), (47, (.ptr 1 3)), (46, (.d (.sl 10 (x3_5.map cGExpr)))), (35, (.d (.b (decide (x5 < (p0.from_.length : Int)))))), (34, (.d (.i .i64 (p0.from_.length : Int)))), (33, (.d (.sl 3 (p0.from_.map cGSource)))), (32, (.ptr 1 2)), (31, (.d (.i .i64 x5))), (1, (.ptr 1 0)), (3, (.d (.sl 10 (x3_5.map cGExpr)))), (5, (.d (.i .i64 x5)))], [(1, [(.d (.b p0.distinct)), (.d (.sl 13 (p0.items.map cGItem))), (.d (.sl 3 (p0.from_.map cGSource))), (.d (.sl 10 (p0.where_.map cGExpr))), (.d (.sl 11 (p0.order.map cGSortKey))), (.d (.i .i64 p0.limit))])]⟩) h (by kernel_rfl) (by kernel_rfl) (by kernel_rfl) (by kernel_rfl) (fun y => by kernel_rfl) ?_
      clear h; intro y8 h
      refine sts_ok 1 (s' := ⟨[(3, (.osl 3 49 10 (y8.map cGExpr))), (49, (.d (.sl 10 (y8.map cGExpr)))), (48, (.d (.sl 10 (p0.where_.map cGExpr)))), (47, (.ptr 1 3)), (46, (.d (.sl 10 (x3_5.map cGExpr)))), (35, (.d (.b (decide (x5 < (p0.from_.length : Int)))))), (34, (.d (.i .i64 (p0.from_.length : Int)))), (33, (.d (.sl 3 (p0.from_.map cGSource)))), (32, (.ptr 1 2)), (31, (.d (.i .i64 x5))), (1, (.ptr 1 0)), (3, (.d (.sl 10 (x3_5.map cGExpr)))), (5, (.d (.i .i64 x5)))], [(1, [(.d (.b p0.distinct)), (.d (.sl 13 (p0.items.map cGItem))), (.d (.sl 3 (p0.from_.map cGSource))), (.d (.sl 10 (p0.where_.map cGExpr))), (.d (.sl 11 (p0.order.map cGSortKey))), (.d (.i .i64 p0.limit))])]⟩) (by kernel_rfl) ?_
      refine nil_in ?_
      refine next_in ?_
      refine seq_in ?_
      refine seq_in ?_
      refine ops_in ?_
      refine sts_ok 1 (s' := ⟨[(6, (.d (.i .i64 0))), (3, (.osl 3 49 10 (y8.map cGExpr))), (49, (.d (.sl 10 (y8.map cGExpr)))), (48, (.d (.sl 10 (p0.where_.map cGExpr)))), (47, (.ptr 1 3)), (46, (.d (.sl 10 (x3_5.map cGExpr)))), (35, (.d (.b (decide (x5 < (p0.from_.length : Int)))))), (34, (.d (.i .i64 (p0.from_.length : Int)))), (33, (.d (.sl 3 (p0.from_.map cGSource)))), (32, (.ptr 1 2)), (31, (.d (.i .i64 x5))), (1, (.ptr 1 0)), (3, (.d (.sl 10 (x3_5.map cGExpr)))), (5, (.d (.i .i64 x5)))], [(1, [(.d (.b p0.distinct)), (.d (.sl 13 (p0.items.map cGItem))), (.d (.sl 3 (p0.from_.map cGSource))), (.d (.sl 10 (p0.where_.map cGExpr))), (.d (.sl 11 (p0.order.map cGSortKey))), (.d (.i .i64 p0.limit))])]⟩) (by kernel_rfl) ?_
      refine nil_in ?_
      refine next_in ?_
      refine block_in ?_
      exact loop_go (s' := stsL7Exprs_L3 p0 y8 0) (wk_ren [(3, .old 3)] (by kernel_rfl) (er_cons (vr_same (by kernel_rfl) (by kernel_rfl)) (er_cons (vr_old (t := 3) (by kernel_rfl) (by kernel_rfl)) (er_cons (vr_same (by kernel_rfl) (by kernel_rfl)) (er_nil)))) (br_same (by kernel_rfl) (by kernel_rfl) (br_nil))) (OK_sL7Exprs_L3 p0 y8 0 _ h)
theorem OK_sL7Exprs_L2 (p0 : GQuery) (x3_5 : (List GExpr)) (x5 : Int) (r : (List GExpr)) (h : sL7Exprs_L2 p0 x3_5 x5 = some r) : avc Try.prog acsL7Exprs_L2 (qsL7Exprs_4 r) (stsL7Exprs_L2 p0 x3_5 x5) := (OKs_sL7Exprs_L2 p0) x3_5 x5 r h
end Go.Proofs.Ytdiknmniclancaa
