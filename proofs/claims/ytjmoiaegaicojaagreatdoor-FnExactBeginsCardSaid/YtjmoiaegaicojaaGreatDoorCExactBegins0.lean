/- That the code computes these functions (printed by a program). -/
import Derived.Test.YtjmoiaegaicojaaGreatDoorAbP
import Derived.Test.YtjmoiaegaicojaaGreatDoorAbQ
import Derived.KernelRfl
import Derived.Test.YtjmoiaegaicojaaGreatDoorAbG2
import Derived.Test.YtjmoiaegaicojaaGreatDoorAbC3
import Derived.Test.YtjmoiaegaicojaaGreatDoorAbX4
import Derived.Test.YtjmoiaegaicojaaGreatDoorAbX1
import Derived.Test.YtjmoiaegaicojaaGreatDoorFExactBegins
import Derived.Test.YtjmoiaegaicojaaGreatDoorProg
namespace Go.Proofs.YtjmoiaegaicojaaGreatDoor
open Go Go.RowKit Go.Ab
attribute [local irreducible] avc aops aop dgo retQ thenK blockK wkK drawK stz dstz ACalls eff CallN.st
def cI (n : Int) : List D := [.i .i64 n]
def cU8 (n : Int) : List D := [.i .u8 n]
def cU64 (n : Int) : List D := [.i .u64 n]
def cI32 (n : Int) : List D := [.i .i32 n]
def cU32 (n : Int) : List D := [.i .u32 n]
def cB (b : Bool) : List D := [.b b]
def cStr (s : List UInt8) : List D := [.s (bs s)]
def cSl {α : Type} (sz : Nat) (f : α → List D) (l : List α) : List D := [.sl sz (l.map f)]
def cGToken (x : GToken) : List D := [(.i .i64 x.kind), (.s (bs x.text)), (.i .i64 x.at_)]
def vGToken (x : GToken) : V := .agg (cGToken x)
def bGToken (x : GToken) : List V := (cGToken x).map V.d
def cGValue (x : GValue) : List D := [(.i .i64 x.kind), (.i .i64 x.num), (.s (bs x.text))]
def vGValue (x : GValue) : V := .agg (cGValue x)
def bGValue (x : GValue) : List V := (cGValue x).map V.d
mutual
def cGExpr : GExpr → List D
  | ⟨a0, a1, a2, a3, a4, a5, a6, a7⟩ => [(.i .i64 a0)] ++ [(.i .i64 a1)] ++ [(.b a2)] ++ cGValue a3 ++ [(.s (bs a4))] ++ [(.s (bs a5))] ++ [.sl 10 (cLGExpr a6)] ++ [.sl 6 (cLGQuery a7)]
def cGItem : GItem → List D
  | ⟨a0, a1, a2, a3⟩ => [(.b a0)] ++ [(.s (bs a1))] ++ cGExpr a2 ++ [(.s (bs a3))]
def cGQuery : GQuery → List D
  | ⟨a0, a1, a2, a3, a4, a5⟩ => [(.b a0)] ++ [.sl 13 (cLGItem a1)] ++ [.sl 3 (cLGSource a2)] ++ [.sl 10 (cLGExpr a3)] ++ [.sl 11 (cLGSortKey a4)] ++ [(.i .i64 a5)]
def cGSortKey : GSortKey → List D
  | ⟨a0, a1⟩ => cGExpr a0 ++ [(.b a1)]
def cGSource : GSource → List D
  | ⟨a0, a1, a2⟩ => [(.s (bs a0))] ++ [(.s (bs a1))] ++ [.sl 10 (cLGExpr a2)]
def cLGExpr : List GExpr → List (List D)
  | [] => []
  | x :: l => cGExpr x :: cLGExpr l
def cLGItem : List GItem → List (List D)
  | [] => []
  | x :: l => cGItem x :: cLGItem l
def cLGQuery : List GQuery → List (List D)
  | [] => []
  | x :: l => cGQuery x :: cLGQuery l
def cLGSortKey : List GSortKey → List (List D)
  | [] => []
  | x :: l => cGSortKey x :: cLGSortKey l
def cLGSource : List GSource → List (List D)
  | [] => []
  | x :: l => cGSource x :: cLGSource l
end
theorem cLGExpr_eq : ∀ l : List GExpr, cLGExpr l = l.map cGExpr
  | [] => by simp only [cLGExpr, List.map_nil]
  | x :: l => by simp only [cLGExpr, List.map_cons, cLGExpr_eq l]
theorem cLGItem_eq : ∀ l : List GItem, cLGItem l = l.map cGItem
  | [] => by simp only [cLGItem, List.map_nil]
  | x :: l => by simp only [cLGItem, List.map_cons, cLGItem_eq l]
theorem cLGQuery_eq : ∀ l : List GQuery, cLGQuery l = l.map cGQuery
  | [] => by simp only [cLGQuery, List.map_nil]
  | x :: l => by simp only [cLGQuery, List.map_cons, cLGQuery_eq l]
theorem cLGSortKey_eq : ∀ l : List GSortKey, cLGSortKey l = l.map cGSortKey
  | [] => by simp only [cLGSortKey, List.map_nil]
  | x :: l => by simp only [cLGSortKey, List.map_cons, cLGSortKey_eq l]
theorem cLGSource_eq : ∀ l : List GSource, cLGSource l = l.map cGSource
  | [] => by simp only [cLGSource, List.map_nil]
  | x :: l => by simp only [cLGSource, List.map_cons, cLGSource_eq l]
def oGExpr (x : GExpr) : List D := [(.i .i64 x.kind), (.i .i64 x.op), (.b x.not_), (.i .i64 x.value.kind), (.i .i64 x.value.num), (.s (bs x.value.text)), (.s (bs x.qual)), (.s (bs x.name)), (.sl 10 (x.kids.map cGExpr)), (.sl 6 (x.sub.map cGQuery))]
def oGItem (x : GItem) : List D := [(.b x.star), (.s (bs x.qual)), (.i .i64 x.expr.kind), (.i .i64 x.expr.op), (.b x.expr.not_), (.i .i64 x.expr.value.kind), (.i .i64 x.expr.value.num), (.s (bs x.expr.value.text)), (.s (bs x.expr.qual)), (.s (bs x.expr.name)), (.sl 10 (x.expr.kids.map cGExpr)), (.sl 6 (x.expr.sub.map cGQuery)), (.s (bs x.as_))]
def oGQuery (x : GQuery) : List D := [(.b x.distinct), (.sl 13 (x.items.map cGItem)), (.sl 3 (x.from_.map cGSource)), (.sl 10 (x.where_.map cGExpr)), (.sl 11 (x.order.map cGSortKey)), (.i .i64 x.limit)]
def oGSortKey (x : GSortKey) : List D := [(.i .i64 x.expr.kind), (.i .i64 x.expr.op), (.b x.expr.not_), (.i .i64 x.expr.value.kind), (.i .i64 x.expr.value.num), (.s (bs x.expr.value.text)), (.s (bs x.expr.qual)), (.s (bs x.expr.name)), (.sl 10 (x.expr.kids.map cGExpr)), (.sl 6 (x.expr.sub.map cGQuery)), (.b x.desc)]
def oGSource (x : GSource) : List D := [(.s (bs x.table)), (.s (bs x.as_)), (.sl 10 (x.on_.map cGExpr))]
theorem cGExpr_eq (x : GExpr) : cGExpr x = oGExpr x := by
  obtain ⟨a0, a1, a2, a3, a4, a5, a6, a7⟩ := x
  simp only [cGExpr, oGExpr, cLGExpr_eq, cLGItem_eq, cLGQuery_eq, cLGSortKey_eq, cLGSource_eq, List.cons_append, List.nil_append, cGValue]
theorem cGItem_eq (x : GItem) : cGItem x = oGItem x := by
  obtain ⟨a0, a1, a2, a3⟩ := x
  simp only [cGItem, oGItem, cLGExpr_eq, cLGItem_eq, cLGQuery_eq, cLGSortKey_eq, cLGSource_eq, cGExpr_eq, oGExpr, List.cons_append, List.nil_append]
theorem cGQuery_eq (x : GQuery) : cGQuery x = oGQuery x := by
  obtain ⟨a0, a1, a2, a3, a4, a5⟩ := x
  simp only [cGQuery, oGQuery, cLGExpr_eq, cLGItem_eq, cLGQuery_eq, cLGSortKey_eq, cLGSource_eq, List.cons_append, List.nil_append]
theorem cGSortKey_eq (x : GSortKey) : cGSortKey x = oGSortKey x := by
  obtain ⟨a0, a1⟩ := x
  simp only [cGSortKey, oGSortKey, cLGExpr_eq, cLGItem_eq, cLGQuery_eq, cLGSortKey_eq, cLGSource_eq, cGExpr_eq, oGExpr, List.cons_append, List.nil_append]
theorem cGSource_eq (x : GSource) : cGSource x = oGSource x := by
  obtain ⟨a0, a1, a2⟩ := x
  simp only [cGSource, oGSource, cLGExpr_eq, cLGItem_eq, cLGQuery_eq, cLGSortKey_eq, cLGSource_eq, List.cons_append, List.nil_append]
def vGExpr (x : GExpr) : V := .agg (oGExpr x)
def bGExpr (x : GExpr) : List V := (oGExpr x).map V.d
def vGItem (x : GItem) : V := .agg (oGItem x)
def bGItem (x : GItem) : List V := (oGItem x).map V.d
def vGQuery (x : GQuery) : V := .agg (oGQuery x)
def bGQuery (x : GQuery) : List V := (oGQuery x).map V.d
def vGSortKey (x : GSortKey) : V := .agg (oGSortKey x)
def bGSortKey (x : GSortKey) : List V := (oGSortKey x).map V.d
def vGSource (x : GSource) : V := .agg (oGSource x)
def bGSource (x : GSource) : List V := (oGSource x).map V.d
def cGL12In (x : GL12In) : List D := [(.sl 3 (x.t.map cGToken)), (.i .i64 x.at_), (.b x.bad)]
def vGL12In (x : GL12In) : V := .agg (cGL12In x)
def bGL12In (x : GL12In) : List V := (cGL12In x).map V.d
def cGParser (x : GParser) : List D := [(.sl 3 (x.list.map cGToken)), (.i .i64 x.at_), (.b x.failed)]
def vGParser (x : GParser) : V := .agg (cGParser x)
def bGParser (x : GParser) : List V := (cGParser x).map V.d
instance : Enc GToken := ⟨cGToken, cGToken, (fun _ => rfl)⟩
instance : Enc (List UInt8) := ⟨cStr, cStr, (fun _ => rfl)⟩
def acwFnExactBegins : AC := (.seq (.ops [.asg 2 (kB false)]) (.seq (.ops [.asg 3 (kI 1048576)]) (.seq (.ops [.mv 7 0, .mv 8 3, .call (some 9) 4 [7, 8], .asg 3 9]) (.seq (.seq (.ops [.mv 10 3, .bin 11 .lss 10 (kI 0)]) (.cond 11 (.seq (.ops [.asg 2 (kB true)]) .ret) .skip)) (.seq (.ops [.mv 12 0, .call (some 13) 6 [12], .call (some 14) 5 [13], .asg 4 14]) (.seq (.ops [.mv 15 0, .call (some 16) 6 [15], .asg 5 16]) (.seq (.ops [.mv 17 5, .call (some 18) 7 [17], .asg 6 18]) (.seq (.seq (.ops [.mv 19 6, .mv 20 4, .eqb 21 true 19 20]) (.cond 21 (.seq (.ops [.asg 2 (kB false)]) .ret) .skip)) (.seq (.seq (.ops [.mv 22 5, .mv 23 0, .call (some 24) 6 [23], .call (some 25) 8 [22, 24], .not 26 25]) (.cond 26 (.seq (.ops [.asg 2 (kB false)]) .ret) .skip)) (.seq (.ops [.asg 2 (kB true)]) .ret))))))))))
theorem trwFnExactBegins : trFn Tryz.prog 3 = some (acwFnExactBegins, [.mv 0 2], 27) := by kernel_rfl
def qwFnExactBegins (r : Bool) : Exit → St → Prop := retQ [.mv 0 2] fun x _ => x = (fun y => (vB y)) r
def acsBegins : AC := (.seq (.ops [.asg 2 (kB false)]) (.seq (.ops [.mv 6 0, .call (some 7) 10 [6], .mv 5 7, .ext 8 5 0, .ext 9 5 1, .alc 3 [(.d (.i .i64 0)), (.d (.i .i64 0)), (.d (.b false)), (.d (.i .i64 0)), (.d (.i .i64 0)), (.d (.s (bs []))), (.d (.s (bs []))), (.d (.s (bs []))), (.nil 10), (.nil 6)], .st 10 3 8, .asg 4 9]) (.seq (.ops [.mv 10 4, .bin 11 .lss 10 (kI 0), .mv 12 11, .g 12 false (.mv 13 4), .g 12 false (.mv 14 0), .g 12 false (.len 15 14), .g 12 false (.bin 16 .eql 13 15), .pick 17 12 (kB true) 16, .asg 2 17]) .ret)))
theorem trsBegins : trFn Tryz.prog 5 = some (acsBegins, [.mv 0 2], 18) := by kernel_rfl
def qsBegins (r : Bool) : Exit → St → Prop := retQ [.mv 0 2] fun x _ => x = (fun y => (vB y)) r
def acsTakeExpr : AC := (.seq (.ops [.alc 2 [(.d (.i .i64 0)), (.d (.i .i64 0)), (.d (.b false)), (.d (.i .i64 0)), (.d (.i .i64 0)), (.d (.s (bs []))), (.d (.s (bs []))), (.d (.s (bs []))), (.nil 10), (.nil 6)], .asg 3 (kI 0)]) (.seq (.ops [.mv 7 0, .bld 8 [(.nil 3), (.d (.i .i64 0)), (.d (.b false))] [(0, 1, 7)], .box 9 45 8, .asg 4 9]) (.seq (.ops [.mv 10 4, .call (some 11) 14 [10, (kI 1)], .alc 5 [(.d (.i .i64 0)), (.d (.i .i64 0)), (.d (.b false)), (.d (.i .i64 0)), (.d (.i .i64 0)), (.d (.s (bs []))), (.d (.s (bs []))), (.d (.s (bs []))), (.nil 10), (.nil 6)], .st 10 5 11]) (.seq (.ops [.mv 12 4, .call (some 13) 15 [12], .asg 6 13]) (.seq (.seq (.ops [.mv 14 6, .bin 15 .geq 14 (kI 0)]) (.cond 15 (.seq (.ops [.bld 16 [(.d (.i .i64 0)), (.d (.i .i64 0)), (.d (.b false)), (.d (.i .i64 0)), (.d (.i .i64 0)), (.d (.s (bs []))), (.d (.s (bs []))), (.d (.s (bs []))), (.nil 10), (.nil 6)] [], .mv 17 6, .st 10 2 16, .asg 3 17]) .ret) .skip)) (.seq (.ops [.ld 18 10 true 5, .st 10 2 18, .asg 3 (kI (-1))]) .ret))))))
theorem trsTakeExpr : trFn Tryz.prog 10 = some (acsTakeExpr, [.ld 0 10 true 2, .mv 0 3], 19) := by kernel_rfl
def qsTakeExpr (r : GExpr × Int) : Exit → St → Prop := retQ [.ld 0 10 true 2, .mv 0 3] fun x _ => x = (fun y => (.tup [(vGExpr y.1), (vI y.2)])) r
def acsL12Expr_L0 : AC := (.loop (.seq (.seq (.ops [.mv 38 0, .nck 39 38, .fa 40 2 39, .ld 41 1 false 40, .not 42 41]) (.cond 42 .skip (.exit 1))) (.block 2 (.seq (.ops [.mv 43 0, .mv 44 1, .call (some 45) 23 [43, 44], .asg 6 45]) (.seq (.seq (.ops [.mv 46 6, .bin 47 .eql 46 (kI 0)]) (.cond 47 (.exit 1) .skip)) (.seq (.ops [.mv 48 0, .call (some 49) 21 [48, (kB true)]]) (.dops [[], [], [], [], [3], [2, 4], [1, 5], [0, 6], [7, 5, 0, 1, 2, 3, 4, 5, 6, 7]] [.mv 50 6, .ld 51 10 true 5, .mv 52 0, .mv 53 1, .bin 54 .add 53 (kI 1), .call (some 55) 14 [52, 54], .bsl 56 37 10 [51, 55], .bld 57 [(.d (.i .i64 0)), (.d (.i .i64 0)), (.d (.b false)), (.d (.i .i64 0)), (.d (.i .i64 0)), (.d (.s (bs []))), (.d (.s (bs []))), (.d (.s (bs []))), (.nil 10), (.nil 6)] [(0, 1, (kI 4)), (1, 1, 50), (8, 1, 56)], .st 10 5 57])))))))
def acsL12Expr_J1 : AC := (.seq (.ops [.ld 58 10 true 5, .st 10 4 58]) .ret)
def acsL12Expr : AC := (.seq (.ops [.alc 4 [(.d (.i .i64 0)), (.d (.i .i64 0)), (.d (.b false)), (.d (.i .i64 0)), (.d (.i .i64 0)), (.d (.s (bs []))), (.d (.s (bs []))), (.d (.s (bs []))), (.nil 10), (.nil 6)]]) (.seq (.seq (.ops [.mv 7 1]) (.block 0 (.seq (.ops [.bin 9 .eql 7 (kI 3), .asg 8 9]) (.cond 8 (.seq (.seq (.ops [.mv 10 0, .call (some 11) 18 [10, (kI 15)]]) (.cond 11 (.seq (.ops [.mv 12 0, .call (some 13) 14 [12, (kI 3)], .bsl 14 37 10 [13], .bld 15 [(.d (.i .i64 0)), (.d (.i .i64 0)), (.d (.b false)), (.d (.i .i64 0)), (.d (.i .i64 0)), (.d (.s (bs []))), (.d (.s (bs []))), (.d (.s (bs []))), (.nil 10), (.nil 6)] [(0, 1, (kI 3)), (1, 1, (kI 15)), (8, 1, 14)], .st 10 4 15]) .ret) .skip)) (.seq (.ops [.mv 16 0, .call (some 17) 14 [16, (kI 4)], .st 10 4 17]) .ret)) (.seq (.ops [.bin 19 .eql 7 (kI 4), .asg 18 19]) (.cond 18 (.seq (.ops [.mv 20 0, .call (some 21) 19 [20], .st 10 4 21]) .ret) (.seq (.ops [.bin 23 .eql 7 (kI 8), .asg 22 23]) (.cond 22 (.seq (.seq (.ops [.mv 24 0, .call (some 25) 20 [24, (.c (.d (.s (bs [45]))))]]) (.cond 25 (.seq (.ops [.mv 26 0, .call (some 27) 21 [26, (kB true)]]) (.seq (.ops [.mv 28 0, .call (some 29) 14 [28, (kI 8)], .bsl 30 37 10 [29], .bld 31 [(.d (.i .i64 0)), (.d (.i .i64 0)), (.d (.b false)), (.d (.i .i64 0)), (.d (.i .i64 0)), (.d (.s (bs []))), (.d (.s (bs []))), (.d (.s (bs []))), (.nil 10), (.nil 6)] [(0, 1, (kI 3)), (1, 1, (kI 16)), (8, 1, 30)], .st 10 4 31]) .ret)) .skip)) (.seq (.ops [.mv 32 0, .call (some 33) 22 [32], .st 10 4 33]) .ret)) .skip)))))))) (.seq (.ops [.mv 34 0, .mv 35 1, .bin 36 .add 35 (kI 1), .call (some 37) 14 [34, 36], .alc 5 [(.d (.i .i64 0)), (.d (.i .i64 0)), (.d (.b false)), (.d (.i .i64 0)), (.d (.i .i64 0)), (.d (.s (bs []))), (.d (.s (bs []))), (.d (.s (bs []))), (.nil 10), (.nil 6)], .st 10 5 37]) (.seq (.block 1 acsL12Expr_L0) acsL12Expr_J1))))
theorem trsL12Expr : trFn Tryz.prog 14 = some (acsL12Expr, [.ld 0 10 true 4], 59) := by kernel_rfl
def qsL12Expr (r : GExpr × GL12In) : Exit → St → Prop := retQ [.ld 0 10 true 4] fun x b => x = (fun (y : GExpr × GL12In) => (vGExpr y.1)) r ∧ bxHas ((fun (y : GExpr × GL12In) => [(1000000, bGL12In y.2)]) r) b
def qsL12Expr_0 (r : GExpr × GL12In) : Exit → St → Prop := (thenK (wkK (avc Tryz.prog acsL12Expr_J1 (qsL12Expr r))) (qsL12Expr r))
def qsL12Expr_1 (r : GExpr × GL12In) : Exit → St → Prop := (blockK 1 (qsL12Expr_0 r))
def stsL12Expr_L0 (p1 : Int) (b5_0 : Int) (b5_1 : Int) (b5_2 : Bool) (b5_3 : Int) (b5_4 : Int) (kb5_5 : ((List UInt8) × ((List UInt8) × ((List UInt8) × ((List GExpr) × ((List GQuery) × ((List GToken) × (Int × Bool)))))))) : St := ⟨[(0, (.ptr 1000000 0)), (1, (vI p1)), (4, (.ptr 4 0)), (5, (.ptr 5 0))], [(4, [(vI 0), (vI 0), (vB false), (vI 0), (vI 0), (vS []), (vS []), (vS []), (.nil 10), (.nil 6)]), (5, bGExpr (GExpr.mk b5_0 b5_1 b5_2 (GValue.mk b5_3 b5_4 kb5_5.1) kb5_5.2.1 kb5_5.2.2.1 kb5_5.2.2.2.1 kb5_5.2.2.2.2.1)), (1000000, bGL12In (GL12In.mk kb5_5.2.2.2.2.2.1 kb5_5.2.2.2.2.2.2.1 kb5_5.2.2.2.2.2.2.2))]⟩
abbrev mosL12Expr_L0 (p1 : Int) (b5_0 : Int) (b5_1 : Int) (b5_2 : Bool) (b5_3 : Int) (b5_4 : Int) (kb5_5 : ((List UInt8) × ((List UInt8) × ((List UInt8) × ((List GExpr) × ((List GQuery) × ((List GToken) × (Int × Bool)))))))) (r : GExpr × GL12In) : Prop := avc Tryz.prog acsL12Expr_L0 (qsL12Expr_1 r) (stsL12Expr_L0 p1 b5_0 b5_1 b5_2 b5_3 b5_4 kb5_5)
def stsL12Expr_J1 (b5_0 : Int) (b5_1 : Int) (b5_2 : Bool) (b5_3 : Int) (b5_4 : Int) (b5_5 : (List UInt8)) (b5_6 : (List UInt8)) (b5_7 : (List UInt8)) (b5_8 : (List GExpr)) (b5_9 : (List GQuery)) (b1000000_0 : (List GToken)) (b1000000_1 : Int) (b1000000_2 : Bool) : St := ⟨[(4, (.ptr 4 0)), (5, (.ptr 5 0))], [(4, [(vI 0), (vI 0), (vB false), (vI 0), (vI 0), (vS []), (vS []), (vS []), (.nil 10), (.nil 6)]), (5, bGExpr (GExpr.mk b5_0 b5_1 b5_2 (GValue.mk b5_3 b5_4 b5_5) b5_6 b5_7 b5_8 b5_9)), (1000000, bGL12In (GL12In.mk b1000000_0 b1000000_1 b1000000_2))]⟩
abbrev mosL12Expr_J1 (b5_0 : Int) (b5_1 : Int) (b5_2 : Bool) (b5_3 : Int) (b5_4 : Int) (b5_5 : (List UInt8)) (b5_6 : (List UInt8)) (b5_7 : (List UInt8)) (b5_8 : (List GExpr)) (b5_9 : (List GQuery)) (b1000000_0 : (List GToken)) (b1000000_1 : Int) (b1000000_2 : Bool) (r : GExpr × GL12In) : Prop := avc Tryz.prog acsL12Expr_J1 (qsL12Expr r) (stsL12Expr_J1 b5_0 b5_1 b5_2 b5_3 b5_4 b5_5 b5_6 b5_7 b5_8 b5_9 b1000000_0 b1000000_1 b1000000_2)
def acsL12Sign : AC := (.seq (.ops [.asg 4 (kB false)]) (.seq (.ops [.mv 6 0, .call (some 7) 28 [6, (kI 0)], .alc 5 [(.d (.i .i64 0)), (.d (.s (bs []))), (.d (.i .i64 0))], .st 3 5 7]) (.seq (.ops [.fa 8 0 5, .ld 9 1 false 8, .bin 10 .eql 9 (kI 5), .mv 11 10, .g 11 true (.fa 12 1 5), .g 11 true (.ld 13 1 false 12), .g 11 true (.mv 14 1), .g 11 true (.bin 15 .eql 13 14), .pick 16 11 15 (kB false), .asg 4 16]) .ret)))
theorem trsL12Sign : trFn Tryz.prog 20 = some (acsL12Sign, [.mv 0 4], 17) := by kernel_rfl
def qsL12Sign (p0 : GL12In) (r : Bool) : Exit → St → Prop := retQ [.mv 0 4] fun x b => x = (fun (y : Bool) => (vB y)) r ∧ bxHas ((fun (y : Bool) => [(1000000, bGL12In p0)]) r) b
def acsL12Next : AC := (.seq (.ops [.alc 4 [(.d (.i .i64 0)), (.d (.s (bs []))), (.d (.i .i64 0))]]) (.seq (.seq (.dops [[], [0], [1], [2], [3], [4], [5, 4], [6, 4], [7, 4], [4], [8, 9, 4], [4], [11, 4], [12, 4], [13, 4], [14, 4], [10, 15, 4], [4, 16]] [.mv 5 0, .nck 6 5, .fa 7 2 6, .ld 8 1 false 7, .mv 9 8, .g 9 false (.mv 10 0), .g 9 false (.nck 11 10), .g 9 false (.fa 12 1 11), .g 9 false (.ld 13 1 false 12), .g 9 false (.mv 14 1), .g 9 false (.bin 15 .add 13 14), .g 9 false (.mv 16 0), .g 9 false (.nck 17 16), .g 9 false (.fa 18 0 17), .g 9 false (.ld 19 1 false 18), .g 9 false (.len 20 19), .g 9 false (.bin 21 .geq 15 20), .pick 22 9 (kB true) 21]) (.cond 22 (.seq (.ops [.bld 23 [(.d (.i .i64 0)), (.d (.s (bs []))), (.d (.i .i64 0))] [], .st 3 4 23]) .ret) .skip)) (.seq (.dops [[], [0], [1], [2], [], [4], [5], [6], [], [7, 8], [3, 9], [10], [11, 0, 1, 2, 3, 4, 5, 6, 7, 8, 9, 10, 11]] [.mv 24 0, .nck 25 24, .fa 26 0 25, .ld 27 1 false 26, .mv 28 0, .nck 29 28, .fa 30 1 29, .ld 31 1 false 30, .mv 32 1, .bin 33 .add 31 32, .ia 34 3 27 33, .ld 35 3 true 34, .st 3 4 35]) .ret)))
theorem trsL12Next : trFn Tryz.prog 28 = some (acsL12Next, [.ld 0 3 true 4], 36) := by kernel_rfl
def qsL12Next (p0 : GL12In) (r : GToken) : Exit → St → Prop := retQ [.ld 0 3 true 4] fun x b => x = (fun (y : GToken) => (vGToken y)) r ∧ bxHas ((fun (y : GToken) => [(1000000, bGL12In p0)]) r) b
def acsL12Prim_J0 : AC := (.seq (.ops [.ld 62 10 true 4, .st 10 2 62]) .ret)
def ccsL12Prim_0 : AC := (.seq (.ops [.mv 79 0, .mv 80 0, .call (some 81) 20 [80, (.c (.d (.s (bs [40]))))], .call (some 82) 21 [79, 81]]) (.seq (.seq (.ops [.mv 83 0, .nck 84 83, .fa 85 2 84, .ld 86 1 false 85]) (.cond 86 (.seq (.ops [.bld 87 [(.d (.i .i64 0)), (.d (.i .i64 0)), (.d (.b false)), (.d (.i .i64 0)), (.d (.i .i64 0)), (.d (.s (bs []))), (.d (.s (bs []))), (.d (.s (bs []))), (.nil 10), (.nil 6)] [], .st 10 2 87]) .ret) .skip)) (.seq (.ops [.mv 88 0, .call (some 89) 14 [88, (kI 1)], .alc 6 [(.d (.i .i64 0)), (.d (.i .i64 0)), (.d (.b false)), (.d (.i .i64 0)), (.d (.i .i64 0)), (.d (.s (bs []))), (.d (.s (bs []))), (.d (.s (bs []))), (.nil 10), (.nil 6)], .st 10 6 89]) (.seq (.ops [.mv 90 0, .mv 91 0, .call (some 92) 20 [91, (.c (.d (.s (bs [41]))))], .call (some 93) 21 [90, 92]]) (.seq (.ops [.ld 94 10 true 6, .st 10 2 94]) .ret)))))
def acsL12Prim : AC := (.seq (.ops [.alc 2 [(.d (.i .i64 0)), (.d (.i .i64 0)), (.d (.b false)), (.d (.i .i64 0)), (.d (.i .i64 0)), (.d (.s (bs []))), (.d (.s (bs []))), (.d (.s (bs []))), (.nil 10), (.nil 6)]]) (.seq (.ops [.bld 7 [(.d (.i .i64 0)), (.d (.i .i64 0)), (.d (.b false)), (.d (.i .i64 0)), (.d (.i .i64 0)), (.d (.s (bs []))), (.d (.s (bs []))), (.d (.s (bs []))), (.nil 10), (.nil 6)] [(0, 1, (kI 1))], .alc 3 [(.d (.i .i64 0)), (.d (.i .i64 0)), (.d (.b false)), (.d (.i .i64 0)), (.d (.i .i64 0)), (.d (.s (bs []))), (.d (.s (bs []))), (.d (.s (bs []))), (.nil 10), (.nil 6)], .st 10 3 7]) (.seq (.block 0 (.seq (.ops [.mv 9 0, .call (some 10) 29 [9, (kI 3)], .asg 8 10]) (.cond 8 (.seq (.ops [.fa 11 3 3, .fa 12 0 11, .st 1 12 (kI 1)]) (.seq (.ops [.mv 14 0, .call (some 15) 31 [14, (kI 3)], .call (some 16) 30 [15], .mv 13 16, .ext 17 13 0, .ext 18 13 1, .fa 19 3 3, .fa 20 1 19, .st 1 20 17]) (.seq (.ops [.ld 21 10 true 3, .st 10 2 21]) .ret))) (.seq (.ops [.mv 23 0, .call (some 24) 29 [23, (kI 4)], .asg 22 24]) (.cond 22 (.seq (.ops [.mv 25 0, .call (some 26) 31 [25, (kI 4)], .call (some 27) 32 [26], .fa 28 3 3, .st 3 28 27]) (.seq (.ops [.ld 29 10 true 3, .st 10 2 29]) .ret)) (.seq (.ops [.mv 31 0, .call (some 32) 18 [31, (kI 20)], .asg 30 32]) (.cond 30 (.seq (.ops [.ld 33 10 true 3, .st 10 2 33]) .ret) (.seq (.ops [.mv 35 0, .call (some 36) 18 [35, (kI 21)], .asg 34 36]) (.cond 34 (.seq (.ops [.call (some 37) 33 [(kB true)], .fa 38 3 3, .st 3 38 37]) (.seq (.ops [.ld 39 10 true 3, .st 10 2 39]) .ret)) (.seq (.ops [.mv 41 0, .call (some 42) 18 [41, (kI 22)], .asg 40 42]) (.cond 40 (.seq (.ops [.call (some 43) 33 [(kB false)], .fa 44 3 3, .st 3 44 43]) (.seq (.ops [.ld 45 10 true 3, .st 10 2 45]) .ret)) (.seq (.ops [.mv 47 0, .call (some 48) 29 [47, (kI 2)], .asg 46 48]) (.cond 46 (.seq (.ops [.mv 49 0, .call (some 50) 31 [49, (kI 2)], .bld 51 [(.d (.i .i64 0)), (.d (.i .i64 0)), (.d (.b false)), (.d (.i .i64 0)), (.d (.i .i64 0)), (.d (.s (bs []))), (.d (.s (bs []))), (.d (.s (bs []))), (.nil 10), (.nil 6)] [(0, 1, (kI 2)), (7, 1, 50)], .alc 4 [(.d (.i .i64 0)), (.d (.i .i64 0)), (.d (.b false)), (.d (.i .i64 0)), (.d (.i .i64 0)), (.d (.s (bs []))), (.d (.s (bs []))), (.d (.s (bs []))), (.nil 10), (.nil 6)], .st 10 4 51]) (.seq (.seq (.ops [.mv 52 0, .call (some 53) 20 [52, (.c (.d (.s (bs [46]))))]]) (.cond 53 (.seq (.ops [.mv 54 0, .call (some 55) 21 [54, (kB true)]]) (.seq (.ops [.fa 56 7 4, .ld 57 1 false 56, .fa 58 6 4, .st 1 58 57]) (.ops [.mv 59 0, .call (some 60) 31 [59, (kI 2)], .fa 61 7 4, .st 1 61 60]))) .skip)) acsL12Prim_J0)) (.seq (.ops [.mv 64 0, .call (some 65) 18 [64, (kI 19)], .asg 63 65]) (.cond 63 (.seq (.ops [.mv 66 0, .mv 67 0, .call (some 68) 20 [67, (.c (.d (.s (bs [40]))))], .call (some 69) 21 [66, 68]]) (.seq (.ops [.mv 70 0, .call (some 71) 34 [70], .alc 5 [(.d (.b false)), (.nil 13), (.nil 3), (.nil 10), (.nil 11), (.d (.i .i64 0))], .st 6 5 71]) (.seq (.ops [.mv 72 0, .mv 73 0, .call (some 74) 20 [73, (.c (.d (.s (bs [41]))))], .call (some 75) 21 [72, 74]]) (.seq (.ops [.ld 76 6 true 5, .bsl 77 70 6 [76], .bld 78 [(.d (.i .i64 0)), (.d (.i .i64 0)), (.d (.b false)), (.d (.i .i64 0)), (.d (.i .i64 0)), (.d (.s (bs []))), (.d (.s (bs []))), (.d (.s (bs []))), (.nil 10), (.nil 6)] [(0, 1, (kI 9)), (9, 1, 77)], .st 10 2 78]) .ret)))) .skip))))))))))))))) ccsL12Prim_0)))
theorem trsL12Prim : trFn Tryz.prog 22 = some (acsL12Prim, [.ld 0 10 true 2], 95) := by kernel_rfl
def qsL12Prim (r : GExpr × GL12In) : Exit → St → Prop := retQ [.ld 0 10 true 2] fun x b => x = (fun (y : GExpr × GL12In) => (vGExpr y.1)) r ∧ bxHas ((fun (y : GExpr × GL12In) => [(1000000, bGL12In y.2)]) r) b
def qsL12Prim_0 (r : GExpr × GL12In) : Exit → St → Prop := (thenK (wkK (avc Tryz.prog ccsL12Prim_0 (qsL12Prim r))) (qsL12Prim r))
def qsL12Prim_1 (r : GExpr × GL12In) : Exit → St → Prop := (blockK 0 (qsL12Prim_0 r))
def stsL12Prim_J0 (b4_6 : (List UInt8)) (b4_7 : (List UInt8)) (b1000000_0 : (List GToken)) (b1000000_1 : Int) (b1000000_2 : Bool) : St := ⟨[(2, (.ptr 2 0)), (4, (.ptr 4 0))], [(2, [(vI 0), (vI 0), (vB false), (vI 0), (vI 0), (vS []), (vS []), (vS []), (.nil 10), (.nil 6)]), (4, [(vI 2), (vI 0), (vB false), (vI 0), (vI 0), (vS []), (vS b4_6), (vS b4_7), (.nil 10), (.nil 6)]), (1000000, bGL12In (GL12In.mk b1000000_0 b1000000_1 b1000000_2))]⟩
abbrev mosL12Prim_J0 (b4_6 : (List UInt8)) (b4_7 : (List UInt8)) (b1000000_0 : (List GToken)) (b1000000_1 : Int) (b1000000_2 : Bool) (r : GExpr × GL12In) : Prop := avc Tryz.prog acsL12Prim_J0 (qsL12Prim_1 r) (stsL12Prim_J0 b4_6 b4_7 b1000000_0 b1000000_1 b1000000_2)
def acsL12Query_L0 : AC := (.loop (.seq (.seq (.ops [.mv 20 0, .call (some 21) 20 [20, (.c (.d (.s (bs [44]))))]]) (.cond 21 .skip (.exit 0))) (.block 1 (.seq (.ops [.mv 22 0, .call (some 23) 21 [22, (kB true)]]) (.dops [[], [0], [], [2], [3], [1, 4, 3], [0, 1, 2, 3, 4, 5], [6, 5, 5, 0, 1, 2, 3, 4, 5]] [.fa 24 1 3, .ld 25 1 false 24, .mv 26 0, .call (some 27) 43 [26], .bsl 28 80 13 [27], .app 29 80 13 176 25 28, .fa 30 1 3, .st 1 30 29])))))
def acsL12Query_J2 : AC := (.ops [.fa 63 2 3, .ld 64 1 false 63, .ld 65 3 true 5, .bsl 66 83 3 [65], .app 67 83 3 56 64 66, .fa 68 2 3, .st 1 68 67])
def acsL12Query_L1 : AC := (.loop (.seq (.seq (.ops [.mv 42 0, .call (some 43) 20 [42, (.c (.d (.s (bs [44]))))], .mv 44 43, .g 44 false (.mv 45 0), .g 44 false (.call (some 46) 26 [45, (kI 4)]), .pick 47 44 (kB true) 46]) (.cond 47 .skip (.exit 2))) (.block 3 (.seq (.ops [.mv 48 0, .call (some 49) 26 [48, (kI 4)], .asg 4 49]) (.seq (.ops [.mv 50 0, .call (some 51) 21 [50, (kB true)]]) (.seq (.ops [.mv 52 0, .call (some 53) 44 [52], .alc 5 [(.d (.s (bs []))), (.d (.s (bs []))), (.nil 10)], .st 3 5 53]) (.seq (.seq (.ops [.mv 54 4]) (.cond 54 (.seq (.ops [.mv 55 0, .mv 56 0, .call (some 57) 26 [56, (kI 5)], .call (some 58) 21 [55, 57]]) (.ops [.mv 59 0, .call (some 60) 14 [59, (kI 1)], .bsl 61 37 10 [60], .fa 62 2 5, .st 1 62 61])) .skip)) acsL12Query_J2)))))))
def acsL12Query_L3 : AC := (.loop (.seq (.seq (.ops [.mv 85 0, .call (some 86) 20 [85, (.c (.d (.s (bs [44]))))]]) (.cond 86 .skip (.exit 4))) (.block 5 (.seq (.ops [.mv 87 0, .call (some 88) 21 [87, (kB true)]]) (.dops [[], [0], [], [2], [3], [1, 4, 3], [0, 1, 2, 3, 4, 5], [6, 5, 5, 0, 1, 2, 3, 4, 5]] [.fa 89 4 3, .ld 90 1 false 89, .mv 91 0, .call (some 92) 46 [91], .bsl 93 87 11 [92], .app 94 87 11 144 90 93, .fa 95 4 3, .st 1 95 94])))))
def acsL12Query_J5 : AC := (.seq (.ops [.ld 105 6 true 3, .st 6 2 105]) .ret)
def acsL12Query_J4 : AC := (.seq (.seq (.ops [.mv 96 0, .call (some 97) 18 [96, (kI 11)]]) (.cond 97 (.ops [.mv 99 0, .call (some 100) 31 [99, (kI 3)], .call (some 101) 30 [100], .mv 98 101, .ext 102 98 0, .ext 103 98 1, .fa 104 5 3, .st 1 104 102]) .skip)) acsL12Query_J5)
def ccsL12Query_1 : AC := (.seq (.ops [.mv 69 0, .call (some 70) 45 [69], .fa 71 3 3, .st 1 71 70]) (.seq (.seq (.ops [.mv 72 0, .call (some 73) 18 [72, (kI 7)]]) (.cond 73 (.seq (.ops [.mv 74 0, .mv 75 0, .call (some 76) 26 [75, (kI 8)], .call (some 77) 21 [74, 76]]) (.seq (.dops [[], [0], [], [2], [3], [1, 4, 3], [0, 1, 2, 3, 4, 5], [6, 5, 5, 0, 1, 2, 3, 4, 5]] [.fa 78 4 3, .ld 79 1 false 78, .mv 80 0, .call (some 81) 46 [80], .bsl 82 87 11 [81], .app 83 87 11 144 79 82, .fa 84 4 3, .st 1 84 83]) (.block 4 acsL12Query_L3))) .skip)) acsL12Query_J4))
def ccsL12Query_0 : AC := (.seq (.ops [.mv 31 0, .mv 32 0, .call (some 33) 26 [32, (kI 3)], .call (some 34) 21 [31, 33]]) (.seq (.dops [[], [0], [], [2], [3], [1, 4, 3], [0, 1, 2, 3, 4, 5], [6, 5, 5, 0, 1, 2, 3, 4, 5]] [.fa 35 2 3, .ld 36 1 false 35, .mv 37 0, .call (some 38) 44 [37], .bsl 39 83 3 [38], .app 40 83 3 56 36 39, .fa 41 2 3, .st 1 41 40]) (.seq (.block 2 acsL12Query_L1) ccsL12Query_1)))
def acsL12Query : AC := (.seq (.ops [.alc 2 [(.d (.b false)), (.nil 13), (.nil 3), (.nil 10), (.nil 11), (.d (.i .i64 0))]]) (.seq (.ops [.mv 6 0, .mv 7 0, .call (some 8) 26 [7, (kI 1)], .call (some 9) 21 [6, 8]]) (.seq (.ops [.mv 10 0, .call (some 11) 18 [10, (kI 2)], .bld 12 [(.d (.b false)), (.nil 13), (.nil 3), (.nil 10), (.nil 11), (.d (.i .i64 0))] [(0, 1, 11), (5, 1, (kI (-1)))], .alc 3 [(.d (.b false)), (.nil 13), (.nil 3), (.nil 10), (.nil 11), (.d (.i .i64 0))], .st 6 3 12]) (.seq (.dops [[], [0], [], [2], [3], [1, 4, 3], [0, 1, 2, 3, 4, 5], [6, 5, 5, 0, 1, 2, 3, 4, 5]] [.fa 13 1 3, .ld 14 1 false 13, .mv 15 0, .call (some 16) 43 [15], .bsl 17 80 13 [16], .app 18 80 13 176 14 17, .fa 19 1 3, .st 1 19 18]) (.seq (.block 0 acsL12Query_L0) ccsL12Query_0)))))
theorem trsL12Query : trFn Tryz.prog 34 = some (acsL12Query, [.ld 0 6 true 2], 106) := by kernel_rfl
def qsL12Query (r : GQuery × GL12In) : Exit → St → Prop := retQ [.ld 0 6 true 2] fun x b => x = (fun (y : GQuery × GL12In) => (vGQuery y.1)) r ∧ bxHas ((fun (y : GQuery × GL12In) => [(1000000, bGL12In y.2)]) r) b
def qsL12Query_0 (r : GQuery × GL12In) : Exit → St → Prop := (thenK (wkK (avc Tryz.prog ccsL12Query_0 (qsL12Query r))) (qsL12Query r))
def qsL12Query_1 (r : GQuery × GL12In) : Exit → St → Prop := (blockK 0 (qsL12Query_0 r))
def qsL12Query_2 (r : GQuery × GL12In) : Exit → St → Prop := (thenK (wkK (avc Tryz.prog ccsL12Query_1 (qsL12Query r))) (qsL12Query r))
def qsL12Query_3 (r : GQuery × GL12In) : Exit → St → Prop := (blockK 2 (qsL12Query_2 r))
def qsL12Query_4 (r : GQuery × GL12In) : Exit → St → Prop := (thenK (avc Tryz.prog acsL12Query_L1 (qsL12Query_3 r)) (qsL12Query_3 r))
def qsL12Query_5 (r : GQuery × GL12In) : Exit → St → Prop := (blockK 3 (qsL12Query_4 r))
def qsL12Query_6 (r : GQuery × GL12In) : Exit → St → Prop := (thenK (wkK (avc Tryz.prog acsL12Query_J4 (qsL12Query r))) (qsL12Query r))
def qsL12Query_7 (r : GQuery × GL12In) : Exit → St → Prop := (blockK 4 (qsL12Query_6 r))
def stsL12Query_L0 (y3 : Bool × GL12In) (b3_1 : (List GItem)) (b1000000_0 : (List GToken)) (b1000000_1 : Int) (b1000000_2 : Bool) : St := ⟨[(0, (.ptr 1000000 0)), (2, (.ptr 2 0)), (3, (.ptr 3 0))], [(2, [(vB false), (.nil 13), (.nil 3), (.nil 10), (.nil 11), (vI 0)]), (3, [(vB y3.1), (.osl 18 80 13 (b3_1.map cGItem)), (.nil 3), (.nil 10), (.nil 11), (vI (-1))]), (1000000, bGL12In (GL12In.mk b1000000_0 b1000000_1 b1000000_2))]⟩
abbrev mosL12Query_L0 (y3 : Bool × GL12In) (b3_1 : (List GItem)) (b1000000_0 : (List GToken)) (b1000000_1 : Int) (b1000000_2 : Bool) (r : GQuery × GL12In) : Prop := avc Tryz.prog acsL12Query_L0 (qsL12Query_1 r) (stsL12Query_L0 y3 b3_1 b1000000_0 b1000000_1 b1000000_2)
def stsL12Query_L1 (y3 : Bool × GL12In) (b3_1 : (List GItem)) (b3_2 : (List GSource)) (b1000000_0_14 : (List GToken)) (b1000000_1_15 : Int) (b1000000_2_16 : Bool) : St := ⟨[(0, (.ptr 1000000 0)), (2, (.ptr 2 0)), (3, (.ptr 3 0))], [(2, [(vB false), (.nil 13), (.nil 3), (.nil 10), (.nil 11), (vI 0)]), (3, [(vB y3.1), (.osl 18 80 13 (b3_1.map cGItem)), (.osl 40 83 3 (b3_2.map cGSource)), (.nil 10), (.nil 11), (vI (-1))]), (1000000, bGL12In (GL12In.mk b1000000_0_14 b1000000_1_15 b1000000_2_16))]⟩
abbrev mosL12Query_L1 (y3 : Bool × GL12In) (b3_1 : (List GItem)) (b3_2 : (List GSource)) (b1000000_0_14 : (List GToken)) (b1000000_1_15 : Int) (b1000000_2_16 : Bool) (r : GQuery × GL12In) : Prop := avc Tryz.prog acsL12Query_L1 (qsL12Query_3 r) (stsL12Query_L1 y3 b3_1 b3_2 b1000000_0_14 b1000000_1_15 b1000000_2_16)
def stsL12Query_J2 (y3 : Bool × GL12In) (b3_1 : (List GItem)) (b3_2 : (List GSource)) (y22 : GSource × GL12In) (b5_2 : (List GExpr)) (b1000000_0_26 : (List GToken)) (kb1000000_1_27 : (Int × Bool)) : St := ⟨[(0, (.ptr 1000000 0)), (2, (.ptr 2 0)), (3, (.ptr 3 0)), (5, (.ptr 5 0))], [(2, [(vB false), (.nil 13), (.nil 3), (.nil 10), (.nil 11), (vI 0)]), (3, [(vB y3.1), (.osl 18 80 13 (b3_1.map cGItem)), (.osl 40 83 3 (b3_2.map cGSource)), (.nil 10), (.nil 11), (vI (-1))]), (5, bGSource (GSource.mk y22.1.table y22.1.as_ b5_2)), (1000000, bGL12In (GL12In.mk b1000000_0_26 kb1000000_1_27.1 kb1000000_1_27.2))]⟩
abbrev mosL12Query_J2 (y3 : Bool × GL12In) (b3_1 : (List GItem)) (b3_2 : (List GSource)) (y22 : GSource × GL12In) (b5_2 : (List GExpr)) (b1000000_0_26 : (List GToken)) (kb1000000_1_27 : (Int × Bool)) (r : GQuery × GL12In) : Prop := avc Tryz.prog acsL12Query_J2 (qsL12Query_5 r) (stsL12Query_J2 y3 b3_1 b3_2 y22 b5_2 b1000000_0_26 kb1000000_1_27)
def stsL12Query_L3 (y3 : Bool × GL12In) (b3_1 : (List GItem)) (b3_2 : (List GSource)) (y29 : (List GExpr) × GL12In) (b3_4 : (List GSortKey)) (b1000000_0_35 : (List GToken)) (kb1000000_1_36 : (Int × Bool)) : St := ⟨[(0, (.ptr 1000000 0)), (2, (.ptr 2 0)), (3, (.ptr 3 0))], [(2, [(vB false), (.nil 13), (.nil 3), (.nil 10), (.nil 11), (vI 0)]), (3, [(vB y3.1), (.osl 18 80 13 (b3_1.map cGItem)), (.osl 40 83 3 (b3_2.map cGSource)), (.osl 70 37 10 (y29.1.map cGExpr)), (.osl 83 87 11 (b3_4.map cGSortKey)), (vI (-1))]), (1000000, bGL12In (GL12In.mk b1000000_0_35 kb1000000_1_36.1 kb1000000_1_36.2))]⟩
abbrev mosL12Query_L3 (y3 : Bool × GL12In) (b3_1 : (List GItem)) (b3_2 : (List GSource)) (y29 : (List GExpr) × GL12In) (b3_4 : (List GSortKey)) (b1000000_0_35 : (List GToken)) (kb1000000_1_36 : (Int × Bool)) (r : GQuery × GL12In) : Prop := avc Tryz.prog acsL12Query_L3 (qsL12Query_7 r) (stsL12Query_L3 y3 b3_1 b3_2 y29 b3_4 b1000000_0_35 kb1000000_1_36)
def stsL12Query_J4 (y3 : Bool × GL12In) (b3_1 : (List GItem)) (b3_2 : (List GSource)) (y29 : (List GExpr) × GL12In) (b3_4_38 : (List GSortKey)) (b1000000_0_39 : (List GToken)) (b1000000_1_40 : Int) (b1000000_2_41 : Bool) : St := ⟨[(0, (.ptr 1000000 0)), (2, (.ptr 2 0)), (3, (.ptr 3 0))], [(2, [(vB false), (.nil 13), (.nil 3), (.nil 10), (.nil 11), (vI 0)]), (3, [(vB y3.1), (.osl 18 80 13 (b3_1.map cGItem)), (.osl 40 83 3 (b3_2.map cGSource)), (.osl 70 37 10 (y29.1.map cGExpr)), (.osl 83 87 11 (b3_4_38.map cGSortKey)), (vI (-1))]), (1000000, bGL12In (GL12In.mk b1000000_0_39 b1000000_1_40 b1000000_2_41))]⟩
abbrev mosL12Query_J4 (y3 : Bool × GL12In) (b3_1 : (List GItem)) (b3_2 : (List GSource)) (y29 : (List GExpr) × GL12In) (b3_4_38 : (List GSortKey)) (b1000000_0_39 : (List GToken)) (b1000000_1_40 : Int) (b1000000_2_41 : Bool) (r : GQuery × GL12In) : Prop := avc Tryz.prog acsL12Query_J4 (qsL12Query r) (stsL12Query_J4 y3 b3_1 b3_2 y29 b3_4_38 b1000000_0_39 b1000000_1_40 b1000000_2_41)
def stsL12Query_J5 (y3 : Bool × GL12In) (b3_1 : (List GItem)) (b3_2 : (List GSource)) (y29 : (List GExpr) × GL12In) (b3_4_38 : (List GSortKey)) (b3_5 : Int) (b1000000_0_50 : (List GToken)) (b1000000_1_51 : Int) (b1000000_2_52 : Bool) : St := ⟨[(2, (.ptr 2 0)), (3, (.ptr 3 0))], [(2, [(vB false), (.nil 13), (.nil 3), (.nil 10), (.nil 11), (vI 0)]), (3, [(vB y3.1), (.osl 18 80 13 (b3_1.map cGItem)), (.osl 40 83 3 (b3_2.map cGSource)), (.osl 70 37 10 (y29.1.map cGExpr)), (.osl 83 87 11 (b3_4_38.map cGSortKey)), (vI b3_5)]), (1000000, bGL12In (GL12In.mk b1000000_0_50 b1000000_1_51 b1000000_2_52))]⟩
abbrev mosL12Query_J5 (y3 : Bool × GL12In) (b3_1 : (List GItem)) (b3_2 : (List GSource)) (y29 : (List GExpr) × GL12In) (b3_4_38 : (List GSortKey)) (b3_5 : Int) (b1000000_0_50 : (List GToken)) (b1000000_1_51 : Int) (b1000000_2_52 : Bool) (r : GQuery × GL12In) : Prop := avc Tryz.prog acsL12Query_J5 (qsL12Query r) (stsL12Query_J5 y3 b3_1 b3_2 y29 b3_4_38 b3_5 b1000000_0_50 b1000000_1_51 b1000000_2_52)
def acsNumber_L0 : AC := (.loop (.seq (.seq (.ops [.mv 15 5, .mv 16 0, .lns 17 16, .bin 18 .lss 15 17]) (.cond 18 .skip (.exit 0))) (.seq (.block 1 (.seq (.seq (.ops [.mv 21 0, .mv 22 5, .ix 23 21 22, .bin 24 .lss 23 (.c (.d (.i .u8 48))), .mv 25 24, .g 25 false (.mv 26 0), .g 25 false (.mv 27 5), .g 25 false (.ix 28 26 27), .g 25 false (.bin 29 .gtr 28 (.c (.d (.i .u8 57)))), .pick 30 25 (kB true) 29]) (.cond 30 (.seq (.ops [.asg 2 (kI 0), .asg 3 (kB false)]) .ret) .skip)) (.seq (.ops [.mv 31 0, .mv 32 5, .ix 33 31 32, .cvi 34 .i64 33, .bin 35 .sub 34 (kI 48), .asg 6 35]) (.seq (.seq (.ops [.mv 36 4, .mv 37 6, .bin 38 .sub (kI 9223372036854775807) 37, .bin 39 .quo 38 (kI 10), .bin 40 .gtr 36 39]) (.cond 40 (.seq (.ops [.asg 2 (kI 0), .asg 3 (kB false)]) .ret) .skip)) (.ops [.mv 41 4, .bin 42 .mul (kI 10) 41, .mv 43 6, .bin 44 .add 42 43, .asg 4 44]))))) (.ops [.mv 19 5, .bin 20 .add 19 (kI 1), .asg 5 20]))))
def ccsNumber_0 : AC := (.seq (.seq (.ops [.mv 45 4, .call (some 46) 42 [45], .mv 47 0, .bin 48 .neq 46 47]) (.cond 48 (.seq (.ops [.asg 2 (kI 0), .asg 3 (kB false)]) .ret) .skip)) (.seq (.ops [.mv 49 4, .asg 2 49, .asg 3 (kB true)]) .ret))
def acsNumber : AC := (.seq (.ops [.asg 2 (kI 0), .asg 3 (kB false)]) (.seq (.seq (.ops [.mv 7 0, .lns 8 7, .bin 9 .lss 8 (kI 1), .mv 10 9, .g 10 false (.mv 11 0), .g 10 false (.lns 12 11), .g 10 false (.bin 13 .gtr 12 (kI 19)), .pick 14 10 (kB true) 13]) (.cond 14 (.seq (.ops [.asg 2 (kI 0), .asg 3 (kB false)]) .ret) .skip)) (.seq (.ops [.asg 4 (kI 0)]) (.seq (.seq (.ops [.asg 5 (kI 0)]) (.block 0 acsNumber_L0)) ccsNumber_0))))
theorem trsNumber : trFn Tryz.prog 30 = some (acsNumber, [.mv 0 2, .mv 0 3], 50) := by kernel_rfl
def qsNumber (r : Int × Bool) : Exit → St → Prop := retQ [.mv 0 2, .mv 0 3] fun x _ => x = (fun y => (.tup [(vI y.1), (vB y.2)])) r
def qsNumber_0 (r : Int × Bool) : Exit → St → Prop := (thenK (wkK (avc Tryz.prog ccsNumber_0 (qsNumber r))) (qsNumber r))
def qsNumber_1 (r : Int × Bool) : Exit → St → Prop := (blockK 0 (qsNumber_0 r))
def stsNumber_L0 (p0 : (List UInt8)) (x4 : Int) (x5 : Int) : St := ⟨[(0, (vS p0)), (4, (vI x4)), (5, (vI x5))], []⟩
abbrev mosNumber_L0 (p0 : (List UInt8)) (x4 : Int) (x5 : Int) (r : Int × Bool) : Prop := avc Tryz.prog acsNumber_L0 (qsNumber_1 r) (stsNumber_L0 p0 x4 x5)
def acsDigits_J1 : AC := (.seq (.ops [.mv 18 5, .bin 19 .add (kI 48) 18, .cvi 20 .u8 19, .bsl 21 5 1 [20], .cbs 22 21, .mv 23 4, .bin 24 .add 22 23, .asg 4 24]) (.ops [.mv 25 0, .bin 26 .quo 25 (kI 10), .asg 0 26]))
def acsDigits_L0 : AC := (.loop (.seq (.seq (.ops [.mv 10 0, .bin 11 .neq 10 (kI 0)]) (.cond 11 .skip (.exit 0))) (.block 1 (.seq (.ops [.mv 12 0, .bin 13 .rem 12 (kI 10), .asg 5 13]) (.seq (.seq (.ops [.mv 14 5, .bin 15 .lss 14 (kI 0)]) (.cond 15 (.ops [.mv 16 5, .bin 17 .sub (kI 0) 16, .asg 5 17]) .skip)) acsDigits_J1)))))
def ccsDigits_0 : AC := (.seq (.seq (.ops [.mv 27 3]) (.cond 27 (.seq (.ops [.mv 28 4, .bin 29 .add (.c (.d (.s (bs [45])))) 28, .asg 2 29]) .ret) .skip)) (.seq (.ops [.mv 30 4, .asg 2 30]) .ret))
def acsDigits : AC := (.seq (.ops [.asg 2 (.c (.d (.s (bs []))))]) (.seq (.seq (.ops [.mv 6 0, .bin 7 .eql 6 (kI 0)]) (.cond 7 (.seq (.ops [.asg 2 (.c (.d (.s (bs [48]))))]) .ret) .skip)) (.seq (.ops [.mv 8 0, .bin 9 .lss 8 (kI 0), .asg 3 9]) (.seq (.ops [.asg 4 (.c (.d (.s (bs []))))]) (.seq (.block 0 acsDigits_L0) ccsDigits_0)))))
theorem trsDigits : trFn Tryz.prog 42 = some (acsDigits, [.mv 0 2], 31) := by kernel_rfl
def qsDigits (r : (List UInt8)) : Exit → St → Prop := retQ [.mv 0 2] fun x _ => x = (fun y => (vS y)) r
def qsDigits_0 (r : (List UInt8)) : Exit → St → Prop := (thenK (wkK (avc Tryz.prog ccsDigits_0 (qsDigits r))) (qsDigits r))
def qsDigits_1 (r : (List UInt8)) : Exit → St → Prop := (blockK 0 (qsDigits_0 r))
def qsDigits_2 (r : (List UInt8)) : Exit → St → Prop := (thenK (avc Tryz.prog acsDigits_L0 (qsDigits_1 r)) (qsDigits_1 r))
def qsDigits_3 (r : (List UInt8)) : Exit → St → Prop := (blockK 1 (qsDigits_2 r))
def stsDigits_L0 (p0 : Int) (x0 : Int) (x4 : (List UInt8)) : St := ⟨[(0, (vI x0)), (3, (vB (decide (p0 < 0)))), (4, (vS x4))], []⟩
abbrev mosDigits_L0 (p0 : Int) (x0 : Int) (x4 : (List UInt8)) (r : (List UInt8)) : Prop := avc Tryz.prog acsDigits_L0 (qsDigits_1 r) (stsDigits_L0 p0 x0 x4)
def stsDigits_J1 (x0 : Int) (p0 : Int) (x4 : (List UInt8)) (x5 : Int) : St := ⟨[(0, (vI x0)), (3, (vB (decide (p0 < 0)))), (4, (vS x4)), (5, (vI x5))], []⟩
abbrev mosDigits_J1 (x0 : Int) (p0 : Int) (x4 : (List UInt8)) (x5 : Int) (r : (List UInt8)) : Prop := avc Tryz.prog acsDigits_J1 (qsDigits_3 r) (stsDigits_J1 x0 p0 x4 x5)
def acsL12Where : AC := (.seq (.ops [.asg 2 (.c (.nil 10))]) (.seq (.seq (.ops [.mv 3 0, .call (some 4) 18 [3, (kI 6)]]) (.cond 4 (.seq (.ops [.mv 5 0, .call (some 6) 14 [5, (kI 1)], .bsl 7 37 10 [6], .asg 2 7]) .ret) .skip)) (.seq (.ops [.asg 2 (.c (.nil 10))]) .ret)))
theorem trsL12Where : trFn Tryz.prog 45 = some (acsL12Where, [.mv 0 2], 8) := by kernel_rfl
def qsL12Where (r : (List GExpr) × GL12In) : Exit → St → Prop := retQ [.mv 0 2] fun x b => x = (fun (y : (List GExpr) × GL12In) => (.osl 2000000 37 10 (y.1.map cGExpr))) r ∧ bxHas ((fun (y : (List GExpr) × GL12In) => [(1000000, bGL12In y.2)]) r) b
def acsL12Maybe_J0 : AC := (.seq (.ops [.mv 12 5, .asg 4 12]) .ret)
def acsL12Maybe : AC := (.seq (.ops [.asg 4 (kB false)]) (.seq (.ops [.mv 6 0, .mv 7 1, .call (some 8) 26 [6, 7], .asg 5 8]) (.seq (.seq (.ops [.mv 9 5]) (.cond 9 (.ops [.mv 10 0, .call (some 11) 21 [10, (kB true)]]) .skip)) acsL12Maybe_J0)))
theorem trsL12Maybe : trFn Tryz.prog 18 = some (acsL12Maybe, [.mv 0 4], 13) := by kernel_rfl
def qsL12Maybe (r : Bool × GL12In) : Exit → St → Prop := retQ [.mv 0 4] fun x b => x = (fun (y : Bool × GL12In) => (vB y.1)) r ∧ bxHas ((fun (y : Bool × GL12In) => [(1000000, bGL12In y.2)]) r) b
def stsL12Maybe_J0 (y1 : Bool) (b1000000_0 : (List GToken)) (b1000000_1 : Int) (b1000000_2 : Bool) : St := ⟨[(5, (vB y1))], [(1000000, bGL12In (GL12In.mk b1000000_0 b1000000_1 b1000000_2))]⟩
abbrev mosL12Maybe_J0 (y1 : Bool) (b1000000_0 : (List GToken)) (b1000000_1 : Int) (b1000000_2 : Bool) (r : Bool × GL12In) : Prop := avc Tryz.prog acsL12Maybe_J0 (qsL12Maybe r) (stsL12Maybe_J0 y1 b1000000_0 b1000000_1 b1000000_2)
def acsL12Step : AC := (.seq (.seq (.ops [.mv 4 1, .not 5 4, .mv 6 5, .g 6 false (.mv 7 0), .g 6 false (.nck 8 7), .g 6 false (.fa 9 2 8), .g 6 false (.ld 10 1 false 9), .pick 11 6 (kB true) 10]) (.cond 11 (.seq (.ops [.mv 12 0, .nck 13 12, .fa 14 2 13, .st 1 14 (kB true)]) .ret) .skip)) (.ops [.mv 15 0, .mv 16 0, .nck 17 16, .fa 18 1 17, .ld 19 1 false 18, .bin 20 .add 19 (kI 1), .nck 21 15, .fa 22 1 21, .st 1 22 20]))
theorem trsL12Step : trFn Tryz.prog 21 = some (acsL12Step, [], 23) := by kernel_rfl
def qsL12Step (r : GL12In) : Exit → St → Prop := retQ [] fun x b => x = (fun (y : GL12In) => (.tup [])) r ∧ bxHas ((fun (y : GL12In) => [(1000000, bGL12In y)]) r) b
def acsL12Key : AC := (.seq (.ops [.asg 4 (kB false)]) (.seq (.ops [.mv 6 0, .call (some 7) 28 [6, (kI 0)], .alc 5 [(.d (.i .i64 0)), (.d (.s (bs []))), (.d (.i .i64 0))], .st 3 5 7]) (.seq (.dops [[], [0], [1], [2], [3], [4, 3], [3], [6, 3, 3], [5, 7, 3], [3, 8], [9, 7, 0, 1, 2, 3, 4, 5, 6, 7, 8, 9]] [.fa 8 0 5, .ld 9 1 false 8, .bin 10 .eql 9 (kI 1), .mv 11 10, .g 11 true (.fa 12 1 5), .g 11 true (.ld 13 1 false 12), .g 11 true (.mv 14 1), .g 11 true (.call (some 15) 40 [14]), .g 11 true (.bin 16 .eql 13 15), .pick 17 11 16 (kB false), .asg 4 17]) .ret)))
theorem trsL12Key : trFn Tryz.prog 26 = some (acsL12Key, [.mv 0 4], 18) := by kernel_rfl
def qsL12Key (p0 : GL12In) (r : Bool) : Exit → St → Prop := retQ [.mv 0 4] fun x b => x = (fun (y : Bool) => (vB y)) r ∧ bxHas ((fun (y : Bool) => [(1000000, bGL12In p0)]) r) b
def acsKeyText : AC := (.seq (.ops [.asg 2 (.c (.d (.s (bs []))))]) (.seq (.seq (.ops [.mv 3 0, .call (some 4) 47 [3, (kI 1), (kI 28)], .not 5 4]) (.cond 5 (.seq (.ops [.asg 2 (.c (.d (.s (bs []))))]) .ret) .skip)) (.seq (.ops [.call (some 6) 54 [], .mv 7 0, .ia 8 1 6 7, .ld 9 1 false 8, .asg 2 9]) .ret)))
theorem trsKeyText : trFn Tryz.prog 40 = some (acsKeyText, [.mv 0 2], 10) := by kernel_rfl
def qsKeyText (r : (List UInt8)) : Exit → St → Prop := retQ [.mv 0 2] fun x _ => x = (fun y => (vS y)) r
def acsL1In : AC := (.seq (.ops [.asg 6 (kB false)]) (.seq (.ops [.mv 7 0, .mv 8 1, .bin 9 .geq 7 8, .mv 10 9, .g 10 true (.mv 11 0), .g 10 true (.mv 12 2), .g 10 true (.bin 13 .leq 11 12), .pick 14 10 13 (kB false), .asg 6 14]) .ret))
theorem trsL1In : trFn Tryz.prog 47 = some (acsL1In, [.mv 0 6], 15) := by kernel_rfl
def qsL1In (r : Bool) : Exit → St → Prop := retQ [.mv 0 6] fun x _ => x = (fun y => (vB y)) r
def acsL2Words : AC := (.seq (.ops [.asg 0 (.c (.nil 1))]) (.seq (.ops [.bsl 1 9 1 [(.c (.d (.s (bs [])))), (.c (.d (.s (bs [83, 69, 76, 69, 67, 84])))), (.c (.d (.s (bs [68, 73, 83, 84, 73, 78, 67, 84])))), (.c (.d (.s (bs [70, 82, 79, 77])))), (.c (.d (.s (bs [74, 79, 73, 78])))), (.c (.d (.s (bs [79, 78])))), (.c (.d (.s (bs [87, 72, 69, 82, 69])))), (.c (.d (.s (bs [79, 82, 68, 69, 82])))), (.c (.d (.s (bs [66, 89])))), (.c (.d (.s (bs [65, 83, 67])))), (.c (.d (.s (bs [68, 69, 83, 67])))), (.c (.d (.s (bs [76, 73, 77, 73, 84])))), (.c (.d (.s (bs [65, 83])))), (.c (.d (.s (bs [65, 78, 68])))), (.c (.d (.s (bs [79, 82])))), (.c (.d (.s (bs [78, 79, 84])))), (.c (.d (.s (bs [73, 83])))), (.c (.d (.s (bs [73, 78])))), (.c (.d (.s (bs [66, 69, 84, 87, 69, 69, 78])))), (.c (.d (.s (bs [69, 88, 73, 83, 84, 83])))), (.c (.d (.s (bs [78, 85, 76, 76])))), (.c (.d (.s (bs [84, 82, 85, 69])))), (.c (.d (.s (bs [70, 65, 76, 83, 69])))), (.c (.d (.s (bs [73, 78, 83, 69, 82, 84])))), (.c (.d (.s (bs [73, 78, 84, 79])))), (.c (.d (.s (bs [86, 65, 76, 85, 69, 83])))), (.c (.d (.s (bs [85, 80, 68, 65, 84, 69])))), (.c (.d (.s (bs [83, 69, 84])))), (.c (.d (.s (bs [68, 69, 76, 69, 84, 69]))))], .asg 0 1]) .ret))
theorem trsL2Words : trFn Tryz.prog 54 = some (acsL2Words, [.mv 0 0], 2) := by kernel_rfl
def qsL2Words (r : (List (List UInt8))) : Exit → St → Prop := retQ [.mv 0 0] fun x b => x = (fun (y : (List (List UInt8))) => (.osl 2000000 9 1 (y.map cStr))) r ∧ bxHas ((fun (y : (List (List UInt8))) => []) r) b
def acsL12Item : AC := (.seq (.ops [.alc 2 [(.d (.b false)), (.d (.s (bs []))), (.d (.i .i64 0)), (.d (.i .i64 0)), (.d (.b false)), (.d (.i .i64 0)), (.d (.i .i64 0)), (.d (.s (bs []))), (.d (.s (bs []))), (.d (.s (bs []))), (.nil 10), (.nil 6), (.d (.s (bs [])))]]) (.seq (.ops [.mv 7 0, .call (some 8) 28 [7, (kI 1)], .alc 3 [(.d (.i .i64 0)), (.d (.s (bs []))), (.d (.i .i64 0))], .st 3 3 8]) (.seq (.ops [.mv 9 0, .call (some 10) 28 [9, (kI 2)], .alc 4 [(.d (.i .i64 0)), (.d (.s (bs []))), (.d (.i .i64 0))], .st 3 4 10]) (.seq (.seq (.ops [.mv 11 0, .call (some 12) 20 [11, (.c (.d (.s (bs [42]))))]]) (.cond 12 (.seq (.ops [.mv 13 0, .call (some 14) 21 [13, (kB true)]]) (.seq (.ops [.bld 15 [(.d (.b false)), (.d (.s (bs []))), (.d (.i .i64 0)), (.d (.i .i64 0)), (.d (.b false)), (.d (.i .i64 0)), (.d (.i .i64 0)), (.d (.s (bs []))), (.d (.s (bs []))), (.d (.s (bs []))), (.nil 10), (.nil 6), (.d (.s (bs [])))] [(0, 1, (kB true))], .st 13 2 15]) .ret)) .skip)) (.seq (.seq (.ops [.mv 16 0, .call (some 17) 29 [16, (kI 2)], .mv 18 17, .g 18 true (.fa 19 0 3), .g 18 true (.ld 20 1 false 19), .g 18 true (.bin 21 .eql 20 (kI 5)), .pick 22 18 21 (kB false), .mv 23 22, .g 23 true (.fa 24 1 3), .g 23 true (.ld 25 1 false 24), .g 23 true (.bin 26 .eql 25 (.c (.d (.s (bs [46]))))), .pick 27 23 26 (kB false), .mv 28 27, .g 28 true (.fa 29 0 4), .g 28 true (.ld 30 1 false 29), .g 28 true (.bin 31 .eql 30 (kI 5)), .pick 32 28 31 (kB false), .mv 33 32, .g 33 true (.fa 34 1 4), .g 33 true (.ld 35 1 false 34), .g 33 true (.bin 36 .eql 35 (.c (.d (.s (bs [42]))))), .pick 37 33 36 (kB false)]) (.cond 37 (.seq (.ops [.mv 38 0, .call (some 39) 31 [38, (kI 2)], .bld 40 [(.d (.b false)), (.d (.s (bs []))), (.d (.i .i64 0)), (.d (.i .i64 0)), (.d (.b false)), (.d (.i .i64 0)), (.d (.i .i64 0)), (.d (.s (bs []))), (.d (.s (bs []))), (.d (.s (bs []))), (.nil 10), (.nil 6), (.d (.s (bs [])))] [(0, 1, (kB true)), (1, 1, 39)], .alc 5 [(.d (.b false)), (.d (.s (bs []))), (.d (.i .i64 0)), (.d (.i .i64 0)), (.d (.b false)), (.d (.i .i64 0)), (.d (.i .i64 0)), (.d (.s (bs []))), (.d (.s (bs []))), (.d (.s (bs []))), (.nil 10), (.nil 6), (.d (.s (bs [])))], .st 13 5 40]) (.seq (.ops [.mv 41 0, .call (some 42) 21 [41, (kB true)]]) (.seq (.ops [.mv 43 0, .call (some 44) 21 [43, (kB true)]]) (.seq (.ops [.ld 45 13 true 5, .st 13 2 45]) .ret)))) .skip)) (.seq (.ops [.mv 46 0, .call (some 47) 14 [46, (kI 1)], .alc 6 [(.d (.i .i64 0)), (.d (.i .i64 0)), (.d (.b false)), (.d (.i .i64 0)), (.d (.i .i64 0)), (.d (.s (bs []))), (.d (.s (bs []))), (.d (.s (bs []))), (.nil 10), (.nil 6)], .st 10 6 47]) (.seq (.dops [[], [], [1], [0, 2], [3, 2, 0, 1, 2, 3]] [.ld 48 10 true 6, .mv 49 0, .call (some 50) 59 [49], .bld 51 [(.d (.b false)), (.d (.s (bs []))), (.d (.i .i64 0)), (.d (.i .i64 0)), (.d (.b false)), (.d (.i .i64 0)), (.d (.i .i64 0)), (.d (.s (bs []))), (.d (.s (bs []))), (.d (.s (bs []))), (.nil 10), (.nil 6), (.d (.s (bs [])))] [(2, 10, 48), (12, 1, 50)], .st 13 2 51]) .ret)))))))
theorem trsL12Item : trFn Tryz.prog 43 = some (acsL12Item, [.ld 0 13 true 2], 52) := by kernel_rfl
def qsL12Item (r : GItem × GL12In) : Exit → St → Prop := retQ [.ld 0 13 true 2] fun x b => x = (fun (y : GItem × GL12In) => (vGItem y.1)) r ∧ bxHas ((fun (y : GItem × GL12In) => [(1000000, bGL12In y.2)]) r) b
def acsL12Kind : AC := (.seq (.ops [.asg 4 (kB false)]) (.seq (.ops [.mv 6 0, .call (some 7) 28 [6, (kI 0)], .alc 5 [(.d (.i .i64 0)), (.d (.s (bs []))), (.d (.i .i64 0))], .st 3 5 7]) (.seq (.ops [.fa 8 0 5, .ld 9 1 false 8, .mv 10 1, .bin 11 .eql 9 10, .mv 12 11, .g 12 true (.ld 13 3 true 5), .g 12 true (.call (some 14) 41 [13]), .pick 15 12 14 (kB false), .asg 4 15]) .ret)))
theorem trsL12Kind : trFn Tryz.prog 29 = some (acsL12Kind, [.mv 0 4], 16) := by kernel_rfl
def qsL12Kind (p0 : GL12In) (r : Bool) : Exit → St → Prop := retQ [.mv 0 4] fun x b => x = (fun (y : Bool) => (vB y)) r ∧ bxHas ((fun (y : Bool) => [(1000000, bGL12In p0)]) r) b
def acsTokenOk : AC := (.seq (.ops [.box 1 40 0, .asg 2 (kB false)]) (.seq (.seq (.ops [.fa 5 0 1, .ld 6 1 false 5]) (.block 0 (.seq (.ops [.bin 8 .eql 6 (kI 1), .asg 7 8]) (.cond 7 (.seq (.dops [[], [0], [1], [2], [3, 2], [4], [5, 4], [6, 4, 4], [4], [8, 4], [7, 9, 4], [4, 10], [11, 7, 0, 1, 2, 3, 4, 5, 6, 7, 8, 9, 10, 11]] [.fa 9 1 1, .ld 10 1 false 9, .call (some 11) 55 [10], .bin 12 .gtr 11 (kI 0), .mv 13 12, .g 13 true (.fa 14 1 1), .g 13 true (.ld 15 1 false 14), .g 13 true (.call (some 16) 56 [15]), .g 13 true (.fa 17 1 1), .g 13 true (.ld 18 1 false 17), .g 13 true (.bin 19 .eql 16 18), .pick 20 13 19 (kB false), .asg 2 20]) .ret) (.seq (.ops [.bin 22 .eql 6 (kI 2), .asg 21 22]) (.cond 21 (.seq (.ops [.fa 23 1 1, .ld 24 1 false 23, .call (some 25) 57 [24], .asg 2 25]) .ret) (.seq (.ops [.bin 27 .eql 6 (kI 3), .asg 26 27]) (.cond 26 (.seq (.ops [.fa 29 1 1, .ld 30 1 false 29, .call (some 31) 30 [30], .mv 28 31, .ext 32 28 0, .ext 33 28 1, .asg 3 32, .asg 4 33]) (.seq (.ops [.mv 34 4, .asg 2 34]) .ret)) (.seq (.ops [.bin 36 .eql 6 (kI 4), .asg 35 36]) (.cond 35 (.seq (.ops [.fa 37 1 1, .ld 38 1 false 37, .lns 39 38, .bin 40 .leq 39 (kI 40), .asg 2 40]) .ret) (.seq (.ops [.bin 42 .eql 6 (kI 5), .asg 41 42]) (.cond 41 (.seq (.ops [.fa 43 1 1, .ld 44 1 false 43, .call (some 45) 58 [44], .asg 2 45]) .ret) .skip)))))))))))) (.seq (.ops [.asg 2 (kB false)]) .ret)))
theorem trsTokenOk : trFn Tryz.prog 41 = some (acsTokenOk, [.mv 0 2], 46) := by kernel_rfl
def qsTokenOk (r : Bool) : Exit → St → Prop := retQ [.mv 0 2] fun x _ => x = (fun y => (vB y)) r
def acsKeyOf_L0 : AC := (.loop (.seq (.seq (.ops [.mv 12 5, .mv 13 4, .len 14 13, .bin 15 .lss 12 14]) (.cond 15 .skip (.exit 0))) (.seq (.block 1 (.seq (.ops [.mv 18 4, .mv 19 5, .ia 20 1 18 19, .ld 21 1 false 20, .mv 22 3, .bin 23 .eql 21 22]) (.cond 23 (.seq (.ops [.mv 24 5, .asg 2 24]) .ret) .skip))) (.ops [.mv 16 5, .bin 17 .add 16 (kI 1), .asg 5 17]))))
def ccsKeyOf_0 : AC := (.seq (.ops [.asg 2 (kI 0)]) .ret)
def acsKeyOf : AC := (.seq (.ops [.asg 2 (kI 0)]) (.seq (.seq (.ops [.mv 6 0, .lns 7 6, .bin 8 .gtr 7 (kI 8)]) (.cond 8 (.seq (.ops [.asg 2 (kI 0)]) .ret) .skip)) (.seq (.ops [.mv 9 0, .call (some 10) 56 [9], .asg 3 10]) (.seq (.ops [.call (some 11) 54 [], .asg 4 11]) (.seq (.seq (.ops [.asg 5 (kI 1)]) (.block 0 acsKeyOf_L0)) ccsKeyOf_0)))))
theorem trsKeyOf : trFn Tryz.prog 55 = some (acsKeyOf, [.mv 0 2], 25) := by kernel_rfl
def qsKeyOf (r : Int) : Exit → St → Prop := retQ [.mv 0 2] fun x _ => x = (fun y => (vI y)) r
def qsKeyOf_0 (r : Int) : Exit → St → Prop := (thenK (wkK (avc Tryz.prog ccsKeyOf_0 (qsKeyOf r))) (qsKeyOf r))
def qsKeyOf_1 (r : Int) : Exit → St → Prop := (blockK 0 (qsKeyOf_0 r))
def stsKeyOf_L0 (y1 : (List UInt8)) (y2 : (List (List UInt8))) (x5 : Int) : St := ⟨[(3, (vS y1)), (4, (.osl 4 9 1 (y2.map cStr))), (5, (vI x5))], []⟩
abbrev mosKeyOf_L0 (y1 : (List UInt8)) (y2 : (List (List UInt8))) (x5 : Int) (r : Int) : Prop := avc Tryz.prog acsKeyOf_L0 (qsKeyOf_1 r) (stsKeyOf_L0 y1 y2 x5)
def acsFold_J1 : AC := (.ops [.mv 11 4, .bin 12 .add 11 (kI 1), .asg 4 12])
def acsFold_L0 : AC := (.loop (.seq (.seq (.ops [.mv 7 4, .mv 8 3, .len 9 8, .bin 10 .lss 7 9]) (.cond 10 .skip (.exit 0))) (.seq (.block 1 (.seq (.ops [.mv 13 3, .mv 14 4, .ia 15 1 13 14, .ld 16 1 false 15, .bin 17 .geq 16 (.c (.d (.i .u8 97))), .mv 18 17, .g 18 true (.mv 19 3), .g 18 true (.mv 20 4), .g 18 true (.ia 21 1 19 20), .g 18 true (.ld 22 1 false 21), .g 18 true (.bin 23 .leq 22 (.c (.d (.i .u8 122)))), .pick 24 18 23 (kB false)]) (.cond 24 (.ops [.mv 25 3, .mv 26 4, .mv 27 3, .mv 28 4, .ia 29 1 27 28, .ld 30 1 false 29, .bin 31 .sub 30 (.c (.d (.i .u8 32))), .ia 32 1 25 26, .st 1 32 31]) .skip))) acsFold_J1)))
def acsFold_J2 : AC := (.seq (.ops [.mv 33 3, .cbs 34 33, .asg 2 34]) .ret)
def acsFold : AC := (.seq (.ops [.asg 2 (.c (.d (.s (bs []))))]) (.seq (.ops [.mv 5 0, .csb 6 5 5, .asg 3 6]) (.seq (.seq (.ops [.asg 4 (kI 0)]) (.block 0 acsFold_L0)) acsFold_J2)))
theorem trsFold : trFn Tryz.prog 56 = some (acsFold, [.mv 0 2], 35) := by kernel_rfl
def qsFold (r : (List UInt8)) : Exit → St → Prop := retQ [.mv 0 2] fun x _ => x = (fun y => (vS y)) r
def qsFold_0 (r : (List UInt8)) : Exit → St → Prop := (thenK (wkK (avc Tryz.prog acsFold_J2 (qsFold r))) (qsFold r))
def qsFold_1 (r : (List UInt8)) : Exit → St → Prop := (blockK 0 (qsFold_0 r))
def qsFold_2 (r : (List UInt8)) : Exit → St → Prop := (thenK (avc Tryz.prog acsFold_L0 (qsFold_1 r)) (qsFold_1 r))
def stsFold_L0 (x4 : Int) (b60013000_0 : (List Int)) : St := ⟨[(3, (.tre 60013000)), (4, (vI x4))], [(60013000, [(.trc 1 (b60013000_0.map cU8))])]⟩
abbrev mosFold_L0 (x4 : Int) (b60013000_0 : (List Int)) (r : (List UInt8)) : Prop := avc Tryz.prog acsFold_L0 (qsFold_1 r) (stsFold_L0 x4 b60013000_0)
def stsFold_J1 (x4 : Int) (b60052000_0 : (List Int)) : St := ⟨[(3, (.tre 60052000)), (4, (vI x4))], [(60052000, [(.trc 1 (b60052000_0.map cU8))])]⟩
abbrev mosFold_J1 (x4 : Int) (b60052000_0 : (List Int)) (r : (List UInt8)) : Prop := avc Tryz.prog acsFold_J1 (qsFold_2 r) (stsFold_J1 x4 b60052000_0)
def stsFold_J2 (x3 : (List Int)) : St := ⟨[(3, (.d (.sl 1 (x3.map cU8))))], []⟩
abbrev mosFold_J2 (x3 : (List Int)) (r : (List UInt8)) : Prop := avc Tryz.prog acsFold_J2 (qsFold r) (stsFold_J2 x3)
def acsSignOk_J0 : AC := (.cond 4 (.seq (.ops [.asg 2 (kB true)]) .ret) .skip)
def ccsSignOk_0 : AC := (.seq (.ops [.asg 2 (kB false)]) .ret)
def acsSignOk : AC := (.seq (.ops [.asg 2 (kB false)]) (.seq (.seq (.ops [.mv 3 0]) (.block 0 (.seq (.seq (.ops [.bin 5 .eql 3 (.c (.d (.s (bs [40])))), .asg 4 5]) (.cond 4 .skip (.seq (.ops [.bin 6 .eql 3 (.c (.d (.s (bs [41])))), .asg 4 6]) (.cond 4 .skip (.seq (.ops [.bin 7 .eql 3 (.c (.d (.s (bs [44])))), .asg 4 7]) (.cond 4 .skip (.seq (.ops [.bin 8 .eql 3 (.c (.d (.s (bs [46])))), .asg 4 8]) (.cond 4 .skip (.seq (.ops [.bin 9 .eql 3 (.c (.d (.s (bs [42])))), .asg 4 9]) (.cond 4 .skip (.seq (.ops [.bin 10 .eql 3 (.c (.d (.s (bs [43])))), .asg 4 10]) (.cond 4 .skip (.seq (.ops [.bin 11 .eql 3 (.c (.d (.s (bs [45])))), .asg 4 11]) (.cond 4 .skip (.seq (.ops [.bin 12 .eql 3 (.c (.d (.s (bs [47])))), .asg 4 12]) (.cond 4 .skip (.seq (.ops [.bin 13 .eql 3 (.c (.d (.s (bs [37])))), .asg 4 13]) (.cond 4 .skip (.seq (.ops [.bin 14 .eql 3 (.c (.d (.s (bs [61])))), .asg 4 14]) (.cond 4 .skip (.seq (.ops [.bin 15 .eql 3 (.c (.d (.s (bs [60, 62])))), .asg 4 15]) (.cond 4 .skip (.seq (.ops [.bin 16 .eql 3 (.c (.d (.s (bs [60])))), .asg 4 16]) (.cond 4 .skip (.seq (.ops [.bin 17 .eql 3 (.c (.d (.s (bs [60, 61])))), .asg 4 17]) (.cond 4 .skip (.seq (.ops [.bin 18 .eql 3 (.c (.d (.s (bs [62])))), .asg 4 18]) (.cond 4 .skip (.seq (.ops [.bin 19 .eql 3 (.c (.d (.s (bs [62, 61])))), .asg 4 19]) (.cond 4 .skip (.ops [.bin 20 .eql 3 (.c (.d (.s (bs [124, 124])))), .asg 4 20]))))))))))))))))))))))))))))))) acsSignOk_J0))) ccsSignOk_0))
theorem trsSignOk : trFn Tryz.prog 58 = some (acsSignOk, [.mv 0 2], 21) := by kernel_rfl
def qsSignOk (r : Bool) : Exit → St → Prop := retQ [.mv 0 2] fun x _ => x = (fun y => (vB y)) r
def qsSignOk_0 (r : Bool) : Exit → St → Prop := (thenK (wkK (avc Tryz.prog ccsSignOk_0 (qsSignOk r))) (qsSignOk r))
def qsSignOk_1 (r : Bool) : Exit → St → Prop := (blockK 0 (qsSignOk_0 r))
def stsSignOk_J0 (x4 : Bool) : St := ⟨[(4, (vB x4))], []⟩
abbrev mosSignOk_J0 (x4 : Bool) (r : Bool) : Prop := avc Tryz.prog acsSignOk_J0 (qsSignOk_1 r) (stsSignOk_J0 x4)
def acsNameOk : AC := (.seq (.ops [.asg 2 (kB false)]) (.seq (.ops [.mv 3 0, .lns 4 3, .call (some 5) 47 [4, (kI 1), (kI 20)], .asg 2 5]) .ret))
theorem trsNameOk : trFn Tryz.prog 57 = some (acsNameOk, [.mv 0 2], 6) := by kernel_rfl
def qsNameOk (r : Bool) : Exit → St → Prop := retQ [.mv 0 2] fun x _ => x = (fun y => (vB y)) r
def acsL12Text : AC := (.seq (.ops [.asg 4 (.c (.d (.s (bs []))))]) (.seq (.ops [.mv 6 0, .call (some 7) 28 [6, (kI 0)], .alc 5 [(.d (.i .i64 0)), (.d (.s (bs []))), (.d (.i .i64 0))], .st 3 5 7]) (.seq (.ops [.mv 8 0, .mv 9 0, .mv 10 1, .call (some 11) 29 [9, 10], .call (some 12) 21 [8, 11]]) (.seq (.seq (.ops [.mv 13 0, .nck 14 13, .fa 15 2 14, .ld 16 1 false 15]) (.cond 16 (.seq (.ops [.asg 4 (.c (.d (.s (bs []))))]) .ret) .skip)) (.seq (.ops [.fa 17 1 5, .ld 18 1 false 17, .asg 4 18]) .ret)))))
theorem trsL12Text : trFn Tryz.prog 31 = some (acsL12Text, [.mv 0 4], 19) := by kernel_rfl
def qsL12Text (r : (List UInt8) × GL12In) : Exit → St → Prop := retQ [.mv 0 4] fun x b => x = (fun (y : (List UInt8) × GL12In) => (vS y.1)) r ∧ bxHas ((fun (y : (List UInt8) × GL12In) => [(1000000, bGL12In y.2)]) r) b
def acsL12As : AC := (.seq (.ops [.asg 2 (.c (.d (.s (bs []))))]) (.seq (.seq (.ops [.mv 3 0, .call (some 4) 18 [3, (kI 12)]]) (.cond 4 (.seq (.ops [.mv 5 0, .call (some 6) 31 [5, (kI 2)], .asg 2 6]) .ret) .skip)) (.seq (.ops [.asg 2 (.c (.d (.s (bs []))))]) .ret)))
theorem trsL12As : trFn Tryz.prog 59 = some (acsL12As, [.mv 0 2], 7) := by kernel_rfl
def qsL12As (r : (List UInt8) × GL12In) : Exit → St → Prop := retQ [.mv 0 2] fun x b => x = (fun (y : (List UInt8) × GL12In) => (vS y.1)) r ∧ bxHas ((fun (y : (List UInt8) × GL12In) => [(1000000, bGL12In y.2)]) r) b
def acsL12Source : AC := (.seq (.ops [.alc 2 [(.d (.s (bs []))), (.d (.s (bs []))), (.nil 10)]]) (.seq (.ops [.mv 4 0, .call (some 5) 31 [4, (kI 2)], .asg 3 5]) (.seq (.ops [.mv 6 3, .mv 7 0, .call (some 8) 59 [7], .bld 9 [(.d (.s (bs []))), (.d (.s (bs []))), (.nil 10)] [(0, 1, 6), (1, 1, 8)], .st 3 2 9]) .ret)))
theorem trsL12Source : trFn Tryz.prog 44 = some (acsL12Source, [.ld 0 3 true 2], 10) := by kernel_rfl
def qsL12Source (r : GSource × GL12In) : Exit → St → Prop := retQ [.ld 0 3 true 2] fun x b => x = (fun (y : GSource × GL12In) => (vGSource y.1)) r ∧ bxHas ((fun (y : GSource × GL12In) => [(1000000, bGL12In y.2)]) r) b
def acsL12Sort : AC := (.seq (.ops [.alc 2 [(.d (.i .i64 0)), (.d (.i .i64 0)), (.d (.b false)), (.d (.i .i64 0)), (.d (.i .i64 0)), (.d (.s (bs []))), (.d (.s (bs []))), (.d (.s (bs []))), (.nil 10), (.nil 6), (.d (.b false))]]) (.seq (.ops [.mv 4 0, .call (some 5) 14 [4, (kI 1)], .alc 3 [(.d (.i .i64 0)), (.d (.i .i64 0)), (.d (.b false)), (.d (.i .i64 0)), (.d (.i .i64 0)), (.d (.s (bs []))), (.d (.s (bs []))), (.d (.s (bs []))), (.nil 10), (.nil 6)], .st 10 3 5]) (.seq (.seq (.ops [.mv 6 0, .call (some 7) 18 [6, (kI 10)]]) (.cond 7 (.seq (.ops [.ld 8 10 true 3, .bld 9 [(.d (.i .i64 0)), (.d (.i .i64 0)), (.d (.b false)), (.d (.i .i64 0)), (.d (.i .i64 0)), (.d (.s (bs []))), (.d (.s (bs []))), (.d (.s (bs []))), (.nil 10), (.nil 6), (.d (.b false))] [(0, 10, 8), (10, 1, (kB true))], .st 11 2 9]) .ret) .skip)) (.seq (.ops [.mv 10 0, .call (some 11) 18 [10, (kI 9)]]) (.seq (.ops [.ld 12 10 true 3, .bld 13 [(.d (.i .i64 0)), (.d (.i .i64 0)), (.d (.b false)), (.d (.i .i64 0)), (.d (.i .i64 0)), (.d (.s (bs []))), (.d (.s (bs []))), (.d (.s (bs []))), (.nil 10), (.nil 6), (.d (.b false))] [(0, 10, 12)], .st 11 2 13]) .ret)))))
theorem trsL12Sort : trFn Tryz.prog 46 = some (acsL12Sort, [.ld 0 11 true 2], 14) := by kernel_rfl
def qsL12Sort (r : GSortKey × GL12In) : Exit → St → Prop := retQ [.ld 0 11 true 2] fun x b => x = (fun (y : GSortKey × GL12In) => (vGSortKey y.1)) r ∧ bxHas ((fun (y : GSortKey × GL12In) => [(1000000, bGL12In y.2)]) r) b
def acsTextValue : AC := (.seq (.ops [.alc 2 [(.d (.i .i64 0)), (.d (.i .i64 0)), (.d (.s (bs [])))]]) (.seq (.ops [.mv 3 0, .bld 4 [(.d (.i .i64 0)), (.d (.i .i64 0)), (.d (.s (bs [])))] [(0, 1, (kI 2)), (2, 1, 3)], .st 3 2 4]) .ret))
theorem trsTextValue : trFn Tryz.prog 32 = some (acsTextValue, [.ld 0 3 true 2], 5) := by kernel_rfl
def qsTextValue (r : GValue) : Exit → St → Prop := retQ [.ld 0 3 true 2] fun x _ => x = (fun y => (vGValue y)) r
def acsBoolValue : AC := (.seq (.ops [.alc 2 [(.d (.i .i64 0)), (.d (.i .i64 0)), (.d (.s (bs [])))]]) (.seq (.seq (.ops [.mv 3 0]) (.cond 3 (.seq (.ops [.bld 4 [(.d (.i .i64 0)), (.d (.i .i64 0)), (.d (.s (bs [])))] [(0, 1, (kI 3)), (1, 1, (kI 1))], .st 3 2 4]) .ret) .skip)) (.seq (.ops [.bld 5 [(.d (.i .i64 0)), (.d (.i .i64 0)), (.d (.s (bs [])))] [(0, 1, (kI 3))], .st 3 2 5]) .ret)))
theorem trsBoolValue : trFn Tryz.prog 33 = some (acsBoolValue, [.ld 0 3 true 2], 6) := by kernel_rfl
def qsBoolValue (r : GValue) : Exit → St → Prop := retQ [.ld 0 3 true 2] fun x _ => x = (fun y => (vGValue y)) r
def acsL12Cmp_J0 : AC := (.seq (.ops [.ld 61 10 true 3, .st 10 2 61]) .ret)
def acsL12Cmp : AC := (.seq (.ops [.alc 2 [(.d (.i .i64 0)), (.d (.i .i64 0)), (.d (.b false)), (.d (.i .i64 0)), (.d (.i .i64 0)), (.d (.s (bs []))), (.d (.s (bs []))), (.d (.s (bs []))), (.nil 10), (.nil 6)]]) (.seq (.ops [.mv 8 0, .call (some 9) 14 [8, (kI 5)], .alc 3 [(.d (.i .i64 0)), (.d (.i .i64 0)), (.d (.b false)), (.d (.i .i64 0)), (.d (.i .i64 0)), (.d (.s (bs []))), (.d (.s (bs []))), (.d (.s (bs []))), (.nil 10), (.nil 6)], .st 10 3 9]) (.seq (.ops [.mv 10 0, .call (some 11) 23 [10, (kI 4)], .asg 4 11]) (.seq (.seq (.ops [.mv 12 4, .bin 13 .gtr 12 (kI 0)]) (.cond 13 (.seq (.ops [.mv 14 0, .call (some 15) 21 [14, (kB true)]]) (.seq (.dops [[], [], [], [2], [1, 3], [0, 4], [5, 3, 0, 1, 2, 3, 4, 5]] [.mv 16 4, .ld 17 10 true 3, .mv 18 0, .call (some 19) 14 [18, (kI 5)], .bsl 20 37 10 [17, 19], .bld 21 [(.d (.i .i64 0)), (.d (.i .i64 0)), (.d (.b false)), (.d (.i .i64 0)), (.d (.i .i64 0)), (.d (.s (bs []))), (.d (.s (bs []))), (.d (.s (bs []))), (.nil 10), (.nil 6)] [(0, 1, (kI 4)), (1, 1, 16), (8, 1, 20)], .st 10 2 21]) .ret)) .skip)) (.seq (.seq (.ops [.mv 22 0, .call (some 23) 18 [22, (kI 16)]]) (.cond 23 (.seq (.ops [.mv 24 0, .call (some 25) 18 [24, (kI 15)], .asg 5 25]) (.seq (.ops [.mv 26 0, .mv 27 0, .call (some 28) 26 [27, (kI 20)], .call (some 29) 21 [26, 28]]) (.seq (.ops [.mv 30 5, .ld 31 10 true 3, .bsl 32 37 10 [31], .bld 33 [(.d (.i .i64 0)), (.d (.i .i64 0)), (.d (.b false)), (.d (.i .i64 0)), (.d (.i .i64 0)), (.d (.s (bs []))), (.d (.s (bs []))), (.d (.s (bs []))), (.nil 10), (.nil 6)] [(0, 1, (kI 5)), (2, 1, 30), (8, 1, 32)], .st 10 2 33]) .ret))) .skip)) (.seq (.ops [.mv 34 0, .call (some 35) 18 [34, (kI 15)], .asg 6 35]) (.seq (.seq (.ops [.mv 36 0, .call (some 37) 18 [36, (kI 18)]]) (.cond 37 (.seq (.ops [.mv 38 0, .call (some 39) 14 [38, (kI 5)], .alc 7 [(.d (.i .i64 0)), (.d (.i .i64 0)), (.d (.b false)), (.d (.i .i64 0)), (.d (.i .i64 0)), (.d (.s (bs []))), (.d (.s (bs []))), (.d (.s (bs []))), (.nil 10), (.nil 6)], .st 10 7 39]) (.seq (.ops [.mv 40 0, .mv 41 0, .call (some 42) 26 [41, (kI 13)], .call (some 43) 21 [40, 42]]) (.seq (.dops [[], [], [], [], [3], [1, 2, 4], [0, 5], [6, 4, 0, 1, 2, 3, 4, 5, 6]] [.mv 44 6, .ld 45 10 true 3, .ld 46 10 true 7, .mv 47 0, .call (some 48) 14 [47, (kI 5)], .bsl 49 37 10 [45, 46, 48], .bld 50 [(.d (.i .i64 0)), (.d (.i .i64 0)), (.d (.b false)), (.d (.i .i64 0)), (.d (.i .i64 0)), (.d (.s (bs []))), (.d (.s (bs []))), (.d (.s (bs []))), (.nil 10), (.nil 6)] [(0, 1, (kI 6)), (2, 1, 44), (8, 1, 49)], .st 10 2 50]) .ret))) .skip)) (.seq (.seq (.ops [.mv 51 0, .call (some 52) 18 [51, (kI 17)]]) (.cond 52 (.seq (.ops [.mv 53 0, .ld 54 10 true 3, .mv 55 6, .call (some 56) 27 [53, 54, 55], .st 10 2 56]) .ret) .skip)) (.seq (.seq (.ops [.mv 57 6]) (.cond 57 (.ops [.mv 58 0, .nck 59 58, .fa 60 2 59, .st 1 60 (kB true)]) .skip)) acsL12Cmp_J0)))))))))
theorem trsL12Cmp : trFn Tryz.prog 19 = some (acsL12Cmp, [.ld 0 10 true 2], 62) := by kernel_rfl
def qsL12Cmp (r : GExpr × GL12In) : Exit → St → Prop := retQ [.ld 0 10 true 2] fun x b => x = (fun (y : GExpr × GL12In) => (vGExpr y.1)) r ∧ bxHas ((fun (y : GExpr × GL12In) => [(1000000, bGL12In y.2)]) r) b
def stsL12Cmp_J0 (y1 : GExpr × GL12In) (y15 : Bool × GL12In) (b1000000_2 : Bool) : St := ⟨[(2, (.ptr 2 0)), (3, (.ptr 3 0))], [(2, [(vI 0), (vI 0), (vB false), (vI 0), (vI 0), (vS []), (vS []), (vS []), (.nil 10), (.nil 6)]), (3, bGExpr y1.1), (1000000, bGL12In (GL12In.mk y15.2.t y15.2.at_ b1000000_2))]⟩
abbrev mosL12Cmp_J0 (y1 : GExpr × GL12In) (y15 : Bool × GL12In) (b1000000_2 : Bool) (r : GExpr × GL12In) : Prop := avc Tryz.prog acsL12Cmp_J0 (qsL12Cmp r) (stsL12Cmp_J0 y1 y15 b1000000_2)
def acsL12Within_L0 : AC := (.loop (.seq (.seq (.ops [.mv 31 0, .call (some 32) 20 [31, (.c (.d (.s (bs [44]))))]]) (.cond 32 .skip (.exit 0))) (.block 1 (.seq (.ops [.mv 33 0, .call (some 34) 21 [33, (kB true)]]) (.ops [.mv 35 8, .mv 36 0, .call (some 37) 14 [36, (kI 1)], .bsl 38 37 10 [37], .app 39 37 10 136 35 38, .asg 8 39])))))
def ccsL12Within_0 : AC := (.seq (.ops [.mv 40 0, .mv 41 0, .call (some 42) 20 [41, (.c (.d (.s (bs [41]))))], .call (some 43) 21 [40, 42]]) (.seq (.ops [.mv 44 2, .mv 45 8, .bld 46 [(.d (.i .i64 0)), (.d (.i .i64 0)), (.d (.b false)), (.d (.i .i64 0)), (.d (.i .i64 0)), (.d (.s (bs []))), (.d (.s (bs []))), (.d (.s (bs []))), (.nil 10), (.nil 6)] [(0, 1, (kI 7)), (2, 1, 44), (8, 1, 45)], .st 10 6 46]) .ret))
def acsL12Within : AC := (.seq (.ops [.box 4 37 1, .alc 6 [(.d (.i .i64 0)), (.d (.i .i64 0)), (.d (.b false)), (.d (.i .i64 0)), (.d (.i .i64 0)), (.d (.s (bs []))), (.d (.s (bs []))), (.d (.s (bs []))), (.nil 10), (.nil 6)]]) (.seq (.ops [.mv 9 0, .mv 10 0, .call (some 11) 20 [10, (.c (.d (.s (bs [40]))))], .call (some 12) 21 [9, 11]]) (.seq (.seq (.ops [.mv 13 0, .call (some 14) 26 [13, (kI 1)]]) (.cond 14 (.seq (.ops [.mv 15 0, .call (some 16) 34 [15], .alc 7 [(.d (.b false)), (.nil 13), (.nil 3), (.nil 10), (.nil 11), (.d (.i .i64 0))], .st 6 7 16]) (.seq (.ops [.mv 17 0, .mv 18 0, .call (some 19) 20 [18, (.c (.d (.s (bs [41]))))], .call (some 20) 21 [17, 19]]) (.seq (.ops [.mv 21 2, .ld 22 10 true 4, .bsl 23 37 10 [22], .ld 24 6 true 7, .bsl 25 70 6 [24], .bld 26 [(.d (.i .i64 0)), (.d (.i .i64 0)), (.d (.b false)), (.d (.i .i64 0)), (.d (.i .i64 0)), (.d (.s (bs []))), (.d (.s (bs []))), (.d (.s (bs []))), (.nil 10), (.nil 6)] [(0, 1, (kI 8)), (2, 1, 21), (8, 1, 23), (9, 1, 25)], .st 10 6 26]) .ret))) .skip)) (.seq (.dops [[], [], [1], [0, 2], [3, 2, 0, 1, 2, 3]] [.ld 27 10 true 4, .mv 28 0, .call (some 29) 14 [28, (kI 1)], .bsl 30 37 10 [27, 29], .asg 8 30]) (.seq (.block 0 acsL12Within_L0) ccsL12Within_0)))))
theorem trsL12Within : trFn Tryz.prog 27 = some (acsL12Within, [.ld 0 10 true 6], 47) := by kernel_rfl
def qsL12Within (r : GExpr × GL12In) : Exit → St → Prop := retQ [.ld 0 10 true 6] fun x b => x = (fun (y : GExpr × GL12In) => (vGExpr y.1)) r ∧ bxHas ((fun (y : GExpr × GL12In) => [(1000000, bGL12In y.2)]) r) b
def qsL12Within_0 (r : GExpr × GL12In) : Exit → St → Prop := (thenK (wkK (avc Tryz.prog ccsL12Within_0 (qsL12Within r))) (qsL12Within r))
def qsL12Within_1 (r : GExpr × GL12In) : Exit → St → Prop := (blockK 0 (qsL12Within_0 r))
def stsL12Within_L0 (p2 : Bool) (x8 : (List GExpr)) (b1000000_0 : (List GToken)) (b1000000_1 : Int) (b1000000_2 : Bool) : St := ⟨[(0, (.ptr 1000000 0)), (2, (vB p2)), (6, (.ptr 6 0)), (8, (.osl 8 37 10 (x8.map cGExpr)))], [(6, [(vI 0), (vI 0), (vB false), (vI 0), (vI 0), (vS []), (vS []), (vS []), (.nil 10), (.nil 6)]), (1000000, bGL12In (GL12In.mk b1000000_0 b1000000_1 b1000000_2))]⟩
abbrev mosL12Within_L0 (p2 : Bool) (x8 : (List GExpr)) (b1000000_0 : (List GToken)) (b1000000_1 : Int) (b1000000_2 : Bool) (r : GExpr × GL12In) : Prop := avc Tryz.prog acsL12Within_L0 (qsL12Within_1 r) (stsL12Within_L0 p2 x8 b1000000_0 b1000000_1 b1000000_2)
def acsL12Op_J1 : AC := (.ops [.mv 10 5, .bin 11 .add 10 (kI 1), .asg 5 11])
def acsL12Op_L0 : AC := (.loop (.seq (.seq (.ops [.mv 8 5, .bin 9 .leq 8 (kI 14)]) (.cond 9 .skip (.exit 0))) (.seq (.block 1 (.seq (.seq (.ops [.mv 12 5, .bld 13 [(.d (.i .i64 0)), (.d (.i .i64 0)), (.d (.b false)), (.d (.i .i64 0)), (.d (.i .i64 0)), (.d (.s (bs []))), (.d (.s (bs []))), (.d (.s (bs []))), (.nil 10), (.nil 6)] [(0, 1, (kI 4)), (1, 1, 12)], .call (some 14) 35 [13], .mv 15 1, .bin 16 .neq 14 15]) (.cond 16 (.exit 1) .skip)) (.seq (.ops [.mv 17 5, .call (some 18) 36 [17], .alc 6 [(.d (.i .i64 0)), (.d (.s (bs []))), (.d (.i .i64 0))], .st 3 6 18]) (.seq (.ops [.mv 19 0, .call (some 20) 28 [19, (kI 0)], .alc 7 [(.d (.i .i64 0)), (.d (.s (bs []))), (.d (.i .i64 0))], .st 3 7 20]) (.seq (.ops [.fa 21 0 7, .ld 22 1 false 21, .fa 23 0 6, .ld 24 1 false 23, .bin 25 .eql 22 24, .mv 26 25, .g 26 true (.fa 27 1 7), .g 26 true (.ld 28 1 false 27), .g 26 true (.fa 29 1 6), .g 26 true (.ld 30 1 false 29), .g 26 true (.bin 31 .eql 28 30), .pick 32 26 31 (kB false)]) (.cond 32 (.seq (.ops [.mv 33 5, .asg 4 33]) .ret) .skip)))))) acsL12Op_J1)))
def ccsL12Op_0 : AC := (.seq (.ops [.asg 4 (kI 0)]) .ret)
def acsL12Op : AC := (.seq (.ops [.asg 4 (kI 0)]) (.seq (.seq (.ops [.asg 5 (kI 1)]) (.block 0 acsL12Op_L0)) ccsL12Op_0))
theorem trsL12Op : trFn Tryz.prog 23 = some (acsL12Op, [.mv 0 4], 34) := by kernel_rfl
def qsL12Op (p0 : GL12In) (r : Int) : Exit → St → Prop := retQ [.mv 0 4] fun x b => x = (fun (y : Int) => (vI y)) r ∧ bxHas ((fun (y : Int) => [(1000000, bGL12In p0)]) r) b
def qsL12Op_0 (p0 : GL12In) (r : Int) : Exit → St → Prop := (thenK (wkK (avc Tryz.prog ccsL12Op_0 (qsL12Op p0 r))) (qsL12Op p0 r))
def qsL12Op_1 (p0 : GL12In) (r : Int) : Exit → St → Prop := (blockK 0 (qsL12Op_0 p0 r))
def qsL12Op_2 (p0 : GL12In) (r : Int) : Exit → St → Prop := (thenK (avc Tryz.prog acsL12Op_L0 (qsL12Op_1 p0 r)) (qsL12Op_1 p0 r))
def stsL12Op_L0 (p1 : Int) (p0 : GL12In) (x5 : Int) : St := ⟨[(0, (.ptr 1000000 0)), (1, (vI p1)), (5, (vI x5))], [(1000000, bGL12In p0)]⟩
abbrev mosL12Op_L0 (p1 : Int) (p0 : GL12In) (x5 : Int) (r : Int) : Prop := avc Tryz.prog acsL12Op_L0 (qsL12Op_1 p0 r) (stsL12Op_L0 p1 p0 x5)
def stsL12Op_J1 (p1 : Int) (x5 : Int) (p0 : GL12In) : St := ⟨[(0, (.ptr 1000000 0)), (1, (vI p1)), (5, (vI x5))], [(1000000, bGL12In p0)]⟩
abbrev mosL12Op_J1 (p1 : Int) (x5 : Int) (p0 : GL12In) (r : Int) : Prop := avc Tryz.prog acsL12Op_J1 (qsL12Op_2 p0 r) (stsL12Op_J1 p1 x5 p0)
def acsL10Op : AC := (.seq (.ops [.alc 2 [(.d (.i .i64 0)), (.d (.s (bs []))), (.d (.i .i64 0))]]) (.seq (.seq (.ops [.mv 3 0, .bin 4 .eql 3 (kI 1), .mv 5 4, .g 5 false (.mv 6 0), .g 5 false (.bin 7 .eql 6 (kI 2)), .pick 8 5 (kB true) 7, .mv 9 8, .g 9 false (.mv 10 0), .g 9 false (.bin 11 .eql 10 (kI 15)), .pick 12 9 (kB true) 11]) (.cond 12 (.seq (.ops [.mv 13 0, .call (some 14) 48 [13], .bld 15 [(.d (.i .i64 0)), (.d (.s (bs []))), (.d (.i .i64 0))] [(0, 1, (kI 1)), (1, 1, 14)], .st 3 2 15]) .ret) .skip)) (.seq (.ops [.mv 16 0, .call (some 17) 48 [16], .call (some 18) 49 [17], .st 3 2 18]) .ret)))
theorem trsL10Op : trFn Tryz.prog 36 = some (acsL10Op, [.ld 0 3 true 2], 19) := by kernel_rfl
def qsL10Op (r : GToken) : Exit → St → Prop := retQ [.ld 0 3 true 2] fun x _ => x = (fun y => (vGToken y)) r
def acsL10Sign : AC := (.seq (.ops [.alc 2 [(.d (.i .i64 0)), (.d (.s (bs []))), (.d (.i .i64 0))]]) (.seq (.ops [.mv 3 0, .bld 4 [(.d (.i .i64 0)), (.d (.s (bs []))), (.d (.i .i64 0))] [(0, 1, (kI 5)), (1, 1, 3)], .st 3 2 4]) .ret))
theorem trsL10Sign : trFn Tryz.prog 49 = some (acsL10Sign, [.ld 0 3 true 2], 5) := by kernel_rfl
def qsL10Sign (r : GToken) : Exit → St → Prop := retQ [.ld 0 3 true 2] fun x _ => x = (fun y => (vGToken y)) r
def acsOpText : AC := (.seq (.ops [.asg 2 (.c (.d (.s (bs []))))]) (.seq (.seq (.ops [.mv 3 0, .call (some 4) 47 [3, (kI 1), (kI 16)], .not 5 4]) (.cond 5 (.seq (.ops [.asg 2 (.c (.d (.s (bs []))))]) .ret) .skip)) (.seq (.ops [.bsl 6 9 1 [(.c (.d (.s (bs [])))), (.c (.d (.s (bs [79, 82])))), (.c (.d (.s (bs [65, 78, 68])))), (.c (.d (.s (bs [61])))), (.c (.d (.s (bs [60, 62])))), (.c (.d (.s (bs [60])))), (.c (.d (.s (bs [60, 61])))), (.c (.d (.s (bs [62])))), (.c (.d (.s (bs [62, 61])))), (.c (.d (.s (bs [124, 124])))), (.c (.d (.s (bs [43])))), (.c (.d (.s (bs [45])))), (.c (.d (.s (bs [42])))), (.c (.d (.s (bs [47])))), (.c (.d (.s (bs [37])))), (.c (.d (.s (bs [78, 79, 84])))), (.c (.d (.s (bs [45]))))], .mv 7 0, .ia 8 1 6 7, .ld 9 1 false 8, .asg 2 9]) .ret)))
theorem trsOpText : trFn Tryz.prog 48 = some (acsOpText, [.mv 0 2], 10) := by kernel_rfl
def qsOpText (r : (List UInt8)) : Exit → St → Prop := retQ [.mv 0 2] fun x _ => x = (fun y => (vS y)) r
def acsLevelOf_J1 : AC := (.cond 9 (.seq (.ops [.asg 2 (kI 4)]) .ret) (.seq (.ops [.bin 15 .eql 4 (kI 3), .asg 14 15]) (.cond 14 (.seq (.seq (.ops [.fa 16 1 1, .ld 17 1 false 16, .bin 18 .eql 17 (kI 15)]) (.cond 18 (.seq (.ops [.asg 2 (kI 3)]) .ret) .skip)) (.seq (.ops [.fa 19 1 1, .ld 20 1 false 19, .bin 21 .eql 20 (kI 16)]) (.cond 21 (.seq (.ops [.asg 2 (kI 8)]) .ret) .skip))) (.seq (.ops [.bin 23 .eql 4 (kI 4), .asg 22 23]) (.cond 22 (.seq (.ops [.fa 24 1 1, .ld 25 1 false 24, .call (some 26) 47 [25, (kI 1), (kI 14)]]) (.cond 26 (.seq (.ops [.bsl 27 3 1 [(kI 0), (kI 1), (kI 2), (kI 4), (kI 4), (kI 4), (kI 4), (kI 4), (kI 4), (kI 5), (kI 6), (kI 6), (kI 7), (kI 7), (kI 7)], .fa 28 1 1, .ld 29 1 false 28, .ia 30 1 27 29, .ld 31 1 false 30, .asg 2 31]) .ret) .skip)) .skip)))))
def acsLevelOf_J0 : AC := (.cond 5 (.seq (.ops [.asg 2 (kI 9)]) .ret) (.seq (.seq (.ops [.bin 10 .eql 4 (kI 5), .asg 9 10]) (.cond 9 .skip (.seq (.ops [.bin 11 .eql 4 (kI 6), .asg 9 11]) (.cond 9 .skip (.seq (.ops [.bin 12 .eql 4 (kI 7), .asg 9 12]) (.cond 9 .skip (.ops [.bin 13 .eql 4 (kI 8), .asg 9 13]))))))) acsLevelOf_J1))
def acsLevelOf_J2 : AC := (.seq (.ops [.asg 2 (kI 0)]) .ret)
def acsLevelOf : AC := (.seq (.ops [.box 1 37 0, .asg 2 (kI 0)]) (.seq (.seq (.ops [.fa 3 0 1, .ld 4 1 false 3]) (.block 0 (.seq (.seq (.ops [.bin 6 .eql 4 (kI 1), .asg 5 6]) (.cond 5 .skip (.seq (.ops [.bin 7 .eql 4 (kI 2), .asg 5 7]) (.cond 5 .skip (.ops [.bin 8 .eql 4 (kI 9), .asg 5 8]))))) acsLevelOf_J0))) acsLevelOf_J2))
theorem trsLevelOf : trFn Tryz.prog 35 = some (acsLevelOf, [.mv 0 2], 32) := by kernel_rfl
def qsLevelOf (r : Int) : Exit → St → Prop := retQ [.mv 0 2] fun x _ => x = (fun y => (vI y)) r
def qsLevelOf_0 (r : Int) : Exit → St → Prop := (thenK (wkK (avc Tryz.prog acsLevelOf_J2 (qsLevelOf r))) (qsLevelOf r))
def qsLevelOf_1 (r : Int) : Exit → St → Prop := (blockK 0 (qsLevelOf_0 r))
def stsLevelOf_J0 (p0 : GExpr) (x5 : Bool) : St := ⟨[(1, (.ptr 1 0)), (4, (vI p0.kind)), (5, (vB x5))], [(1, bGExpr p0)]⟩
abbrev mosLevelOf_J0 (p0 : GExpr) (x5 : Bool) (r : Int) : Prop := avc Tryz.prog acsLevelOf_J0 (qsLevelOf_1 r) (stsLevelOf_J0 p0 x5)
def stsLevelOf_J1 (p0 : GExpr) (x9 : Bool) : St := ⟨[(1, (.ptr 1 0)), (4, (vI p0.kind)), (9, (vB x9))], [(1, bGExpr p0)]⟩
abbrev mosLevelOf_J1 (p0 : GExpr) (x9 : Bool) (r : Int) : Prop := avc Tryz.prog acsLevelOf_J1 (qsLevelOf_1 r) (stsLevelOf_J1 p0 x9)
def stsLevelOf_J2 : St := ⟨[], []⟩
abbrev mosLevelOf_J2 (r : Int) : Prop := avc Tryz.prog acsLevelOf_J2 (qsLevelOf r) (stsLevelOf_J2)
def acsL12End : AC := (.seq (.ops [.asg 2 (kI 0)]) (.seq (.seq (.dops [[], [0], [1], [2], [3], [4], [5], [6, 5], [7, 5], [8, 5], [5], [10, 5], [11, 5], [12, 5], [13, 5], [9, 14, 5], [5, 15]] [.mv 3 0, .nck 4 3, .fa 5 2 4, .ld 6 1 false 5, .not 7 6, .mv 8 7, .g 8 true (.mv 9 0), .g 8 true (.nck 10 9), .g 8 true (.fa 11 1 10), .g 8 true (.ld 12 1 false 11), .g 8 true (.mv 13 0), .g 8 true (.nck 14 13), .g 8 true (.fa 15 0 14), .g 8 true (.ld 16 1 false 15), .g 8 true (.len 17 16), .g 8 true (.bin 18 .eql 12 17), .pick 19 8 18 (kB false)]) (.cond 19 (.seq (.ops [.asg 2 (kI (-1))]) .ret) .skip)) (.seq (.ops [.mv 20 0, .nck 21 20, .fa 22 1 21, .ld 23 1 false 22, .asg 2 23]) .ret)))
theorem trsL12End : trFn Tryz.prog 15 = some (acsL12End, [.mv 0 2], 24) := by kernel_rfl
def qsL12End (p0 : GL12In) (r : Int) : Exit → St → Prop := retQ [.mv 0 2] fun x b => x = (fun (y : Int) => (vI y)) r ∧ bxHas ((fun (y : Int) => [(1000000, bGL12In p0)]) r) b
def acwToTokenS_L0 : AC := (.loop (.seq (.seq (.ops [.mv 8 4, .mv 9 0, .len 10 9, .bin 11 .lss 8 10]) (.cond 11 .skip (.exit 0))) (.seq (.block 1 (.ops [.mv 14 3, .mv 15 4, .mv 16 0, .mv 17 4, .ia 18 3 16 17, .ld 19 3 true 18, .call (some 20) 11 [19], .ia 21 3 14 15, .st 3 21 20])) (.ops [.mv 12 4, .bin 13 .add 12 (kI 1), .asg 4 13]))))
def ccwToTokenS_0 : AC := (.seq (.ops [.mv 22 3, .asg 2 22]) .ret)
def acwToTokenS : AC := (.seq (.ops [.asg 2 (.c (.nil 3))]) (.seq (.ops [.mv 5 0, .len 6 5, .mks 7 40 3 32 [(.i .i64 0), (.s (bs [])), (.i .i64 0)] 6 6, .asg 3 7]) (.seq (.seq (.ops [.asg 4 (kI 0)]) (.block 0 acwToTokenS_L0)) ccwToTokenS_0)))
theorem trwToTokenS : trFn Tryz.prog 6 = some (acwToTokenS, [.mv 0 2], 23) := by kernel_rfl
def qwToTokenS (r : (List GToken)) : Exit → St → Prop := retQ [.mv 0 2] fun x _ => x = (fun y => (.d (.sl 3 (y.map cGToken)))) r
def qwToTokenS_0 (r : (List GToken)) : Exit → St → Prop := (thenK (wkK (avc Tryz.prog ccwToTokenS_0 (qwToTokenS r))) (qwToTokenS r))
def qwToTokenS_1 (r : (List GToken)) : Exit → St → Prop := (blockK 0 (qwToTokenS_0 r))
def stwToTokenS_L0 (p0 : (List GToken)) (x4 : Int) (b7_0 : (List GToken)) : St := ⟨[(0, (.d (.sl 3 (p0.map cGToken)))), (3, (.msl 7 3 0 b7_0.length b7_0.length)), (4, (vI x4))], [(7, rowsV (b7_0.map cGToken))]⟩
abbrev mowToTokenS_L0 (p0 : (List GToken)) (x4 : Int) (b7_0 : (List GToken)) (r : (List GToken)) : Prop := avc Tryz.prog acwToTokenS_L0 (qwToTokenS_1 r) (stwToTokenS_L0 p0 x4 b7_0)
def acwToToken : AC := (.seq (.ops [.box 1 31 0, .alc 2 [(.d (.i .i64 0)), (.d (.s (bs []))), (.d (.i .i64 0))]]) (.seq (.ops [.alc 3 [(.d (.i .i64 0)), (.d (.s (bs []))), (.d (.i .i64 0))]]) (.seq (.ops [.fa 4 0 1, .ld 5 1 false 4, .fa 6 0 3, .st 1 6 5]) (.seq (.ops [.fa 7 1 1, .ld 8 1 false 7, .fa 9 1 3, .st 1 9 8]) (.seq (.ops [.fa 10 2 1, .ld 11 1 false 10, .fa 12 2 3, .st 1 12 11]) (.seq (.ops [.ld 13 3 true 3, .st 3 2 13]) .ret))))))
theorem trwToToken : trFn Tryz.prog 11 = some (acwToToken, [.ld 0 3 true 2], 14) := by kernel_rfl
def qwToToken (r : GToken) : Exit → St → Prop := retQ [.ld 0 3 true 2] fun x _ => x = (fun y => (vGToken y)) r
def acwEqTokenS_L0 : AC := (.loop (.seq (.seq (.ops [.mv 11 5, .mv 12 0, .len 13 12, .bin 14 .lss 11 13]) (.cond 14 .skip (.exit 0))) (.seq (.block 1 (.seq (.dops [[], [], [0, 1], [2], [], [], [4, 5], [6], [3, 7], [8]] [.mv 17 0, .mv 18 5, .ia 19 3 17 18, .ld 20 3 true 19, .mv 21 1, .mv 22 5, .ia 23 3 21 22, .ld 24 3 true 23, .call (some 25) 13 [20, 24], .not 26 25]) (.cond 26 (.seq (.ops [.asg 4 (kB false)]) .ret) .skip))) (.ops [.mv 15 5, .bin 16 .add 15 (kI 1), .asg 5 16]))))
def ccwEqTokenS_0 : AC := (.seq (.ops [.asg 4 (kB true)]) .ret)
def acwEqTokenS : AC := (.seq (.ops [.asg 4 (kB false)]) (.seq (.seq (.ops [.mv 6 0, .len 7 6, .mv 8 1, .len 9 8, .bin 10 .neq 7 9]) (.cond 10 (.seq (.ops [.asg 4 (kB false)]) .ret) .skip)) (.seq (.seq (.ops [.asg 5 (kI 0)]) (.block 0 acwEqTokenS_L0)) ccwEqTokenS_0)))
theorem trwEqTokenS : trFn Tryz.prog 8 = some (acwEqTokenS, [.mv 0 4], 27) := by kernel_rfl
def qwEqTokenS (r : Bool) : Exit → St → Prop := retQ [.mv 0 4] fun x _ => x = (fun y => (vB y)) r
def qwEqTokenS_0 (r : Bool) : Exit → St → Prop := (thenK (wkK (avc Tryz.prog ccwEqTokenS_0 (qwEqTokenS r))) (qwEqTokenS r))
def qwEqTokenS_1 (r : Bool) : Exit → St → Prop := (blockK 0 (qwEqTokenS_0 r))
def stwEqTokenS_L0 (p0 : (List GToken)) (p1 : (List GToken)) (x5 : Int) : St := ⟨[(0, (.d (.sl 3 (p0.map cGToken)))), (1, (.d (.sl 3 (p1.map cGToken)))), (5, (vI x5))], []⟩
abbrev mowEqTokenS_L0 (p0 : (List GToken)) (p1 : (List GToken)) (x5 : Int) (r : Bool) : Prop := avc Tryz.prog acwEqTokenS_L0 (qwEqTokenS_1 r) (stwEqTokenS_L0 p0 p1 x5)
def acwEqToken : AC := (.seq (.ops [.box 2 40 0, .box 3 40 1, .asg 4 (kB false)]) (.seq (.seq (.ops [.fa 5 0 2, .ld 6 1 false 5, .fa 7 0 3, .ld 8 1 false 7, .bin 9 .neq 6 8]) (.cond 9 (.seq (.ops [.asg 4 (kB false)]) .ret) .skip)) (.seq (.seq (.ops [.fa 10 1 2, .ld 11 1 false 10, .fa 12 1 3, .ld 13 1 false 12, .bin 14 .neq 11 13]) (.cond 14 (.seq (.ops [.asg 4 (kB false)]) .ret) .skip)) (.seq (.seq (.ops [.fa 15 2 2, .ld 16 1 false 15, .fa 17 2 3, .ld 18 1 false 17, .bin 19 .neq 16 18]) (.cond 19 (.seq (.ops [.asg 4 (kB false)]) .ret) .skip)) (.seq (.ops [.asg 4 (kB true)]) .ret)))))
theorem trwEqToken : trFn Tryz.prog 13 = some (acwEqToken, [.mv 0 4], 20) := by kernel_rfl
def qwEqToken (r : Bool) : Exit → St → Prop := retQ [.mv 0 4] fun x _ => x = (fun y => (vB y)) r
def aciBegins : AC := (.seq (.ops [.asg 2 (kB false)]) (.seq (.ops [.mv 6 0, .call (some 7) 12 [6], .mv 5 7, .ext 8 5 0, .ext 9 5 1, .alc 3 [(.d (.i .i64 0)), (.d (.i .i64 0)), (.d (.b false)), (.d (.i .i64 0)), (.d (.i .i64 0)), (.d (.s (bs []))), (.d (.s (bs []))), (.d (.s (bs []))), (.nil 10), (.nil 6)], .st 10 3 8, .asg 4 9]) (.seq (.ops [.mv 10 4, .bin 11 .lss 10 (kI 0), .mv 12 11, .g 12 false (.mv 13 4), .g 12 false (.mv 14 0), .g 12 false (.len 15 14), .g 12 false (.bin 16 .eql 13 15), .pick 17 12 (kB true) 16, .asg 2 17]) .ret)))
theorem triBegins : trFn Tryz.prog 7 = some (aciBegins, [.mv 0 2], 18) := by kernel_rfl
def qiBegins (r : Bool) : Exit → St → Prop := retQ [.mv 0 2] fun x _ => x = (fun y => (vB y)) r
def aciTakeExpr : AC := (.seq (.ops [.alc 2 [(.d (.i .i64 0)), (.d (.i .i64 0)), (.d (.b false)), (.d (.i .i64 0)), (.d (.i .i64 0)), (.d (.s (bs []))), (.d (.s (bs []))), (.d (.s (bs []))), (.nil 10), (.nil 6)], .asg 3 (kI 0)]) (.seq (.ops [.mv 7 0, .bld 8 [(.nil 3), (.d (.i .i64 0)), (.d (.b false))] [(0, 1, 7)], .box 9 50 8, .asg 4 9]) (.seq (.ops [.mv 10 4, .call (some 11) 16 [10], .alc 5 [(.d (.i .i64 0)), (.d (.i .i64 0)), (.d (.b false)), (.d (.i .i64 0)), (.d (.i .i64 0)), (.d (.s (bs []))), (.d (.s (bs []))), (.d (.s (bs []))), (.nil 10), (.nil 6)], .st 10 5 11]) (.seq (.seq (.ops [.mv 12 4, .call (some 13) 17 [12], .asg 6 13]) (.seq (.ops [.mv 14 6, .bin 15 .geq 14 (kI 0)]) (.cond 15 (.seq (.ops [.bld 16 [(.d (.i .i64 0)), (.d (.i .i64 0)), (.d (.b false)), (.d (.i .i64 0)), (.d (.i .i64 0)), (.d (.s (bs []))), (.d (.s (bs []))), (.d (.s (bs []))), (.nil 10), (.nil 6)] [], .mv 17 6, .st 10 2 16, .asg 3 17]) .ret) .skip))) (.seq (.ops [.ld 18 10 true 5, .st 10 2 18, .asg 3 (kI (-1))]) .ret)))))
theorem triTakeExpr : trFn Tryz.prog 12 = some (aciTakeExpr, [.ld 0 10 true 2, .mv 0 3], 19) := by kernel_rfl
def qiTakeExpr (r : GExpr × Int) : Exit → St → Prop := retQ [.ld 0 10 true 2, .mv 0 3] fun x _ => x = (fun y => (.tup [(vGExpr y.1), (vI y.2)])) r
def aciParser_end : AC := (.seq (.ops [.asg 2 (kI 0)]) (.seq (.seq (.dops [[], [0], [1], [2], [3], [4], [5, 4], [6, 4], [7, 4], [4], [9, 4], [10, 4], [11, 4], [12, 4], [8, 13, 4], [4, 14]] [.mv 3 0, .nck 4 3, .fa 5 2 4, .ld 6 1 false 5, .mv 7 6, .g 7 false (.mv 8 0), .g 7 false (.nck 9 8), .g 7 false (.fa 10 1 9), .g 7 false (.ld 11 1 false 10), .g 7 false (.mv 12 0), .g 7 false (.nck 13 12), .g 7 false (.fa 14 0 13), .g 7 false (.ld 15 1 false 14), .g 7 false (.len 16 15), .g 7 false (.bin 17 .lss 11 16), .pick 18 7 (kB true) 17]) (.cond 18 (.seq (.ops [.mv 19 0, .nck 20 19, .fa 21 1 20, .ld 22 1 false 21, .asg 2 22]) .ret) .skip)) (.seq (.ops [.asg 2 (kI (-1))]) .ret)))
theorem triParser_end : trFn Tryz.prog 17 = some (aciParser_end, [.mv 0 2], 23) := by kernel_rfl
def qiParser_end (p0 : GParser) (r : Int) : Exit → St → Prop := retQ [.mv 0 2] fun x b => x = (fun (y : Int) => (vI y)) r ∧ bxHas ((fun (y : Int) => [(1000000, bGParser p0)]) r) b
def aciParser_or : AC := (.seq (.ops [.alc 2 [(.d (.i .i64 0)), (.d (.i .i64 0)), (.d (.b false)), (.d (.i .i64 0)), (.d (.i .i64 0)), (.d (.s (bs []))), (.d (.s (bs []))), (.d (.s (bs []))), (.nil 10), (.nil 6)]]) (.seq (.ops [.mv 3 0, .mv 4 0, .mkf 5 1000025 [4], .bsl 6 3 1 [(kI 1)], .call (some 7) 24 [3, 5, 6], .st 10 2 7]) .ret))
theorem triParser_or : trFn Tryz.prog 16 = some (aciParser_or, [.ld 0 10 true 2], 8) := by kernel_rfl
def qiParser_or (r : GExpr × GParser) : Exit → St → Prop := retQ [.ld 0 10 true 2] fun x b => x = (fun (y : GExpr × GParser) => (vGExpr y.1)) r ∧ bxHas ((fun (y : GExpr × GParser) => [(1000000, bGParser y.2)]) r) b
def aciParser_chain_iParser_and_L0 : AC := (.loop (.block 1 (.seq (.ops [.mv 11 0, .mv 12 2, .call (some 13) 37 [11, 12], .asg 8 13]) (.seq (.seq (.ops [.mv 14 8, .bin 15 .eql 14 (kI 0)]) (.cond 15 (.seq (.ops [.ld 16 10 true 7, .st 10 6 16]) .ret) .skip)) (.dops [[], [], [], [2], [0, 1, 3, 3], [4, 4, 0, 1, 2, 3, 4]] [.mv 17 8, .ld 18 10 true 7, .mv 19 1, .callv (some 20) 19 [], .call (some 21) 38 [17, 18, 20], .st 10 7 21])))))
def aciParser_chain_iParser_and : AC := (.seq (.ops [.alc 6 [(.d (.i .i64 0)), (.d (.i .i64 0)), (.d (.b false)), (.d (.i .i64 0)), (.d (.i .i64 0)), (.d (.s (bs []))), (.d (.s (bs []))), (.d (.s (bs []))), (.nil 10), (.nil 6)]]) (.seq (.ops [.mv 9 1, .callv (some 10) 9 [], .alc 7 [(.d (.i .i64 0)), (.d (.i .i64 0)), (.d (.b false)), (.d (.i .i64 0)), (.d (.i .i64 0)), (.d (.s (bs []))), (.d (.s (bs []))), (.d (.s (bs []))), (.nil 10), (.nil 6)], .st 10 7 10]) (.block 0 aciParser_chain_iParser_and_L0)))
theorem triParser_chain_iParser_and : trFn Tryz.prog 24 = some (aciParser_chain_iParser_and, [.ld 0 10 true 6], 22) := by kernel_rfl
def qiParser_chain_iParser_and (r : GExpr × GParser) : Exit → St → Prop := retQ [.ld 0 10 true 6] fun x b => x = (fun (y : GExpr × GParser) => (vGExpr y.1)) r ∧ bxHas ((fun (y : GExpr × GParser) => [(1000000, bGParser y.2)]) r) b
def qiParser_chain_iParser_and_0 (r : GExpr × GParser) : Exit → St → Prop := (blockK 0 (qiParser_chain_iParser_and r))
def stiParser_chain_iParser_and_L0 (p2 : (List Int)) (b7_0 : Int) (b7_1 : Int) (b7_2 : Bool) (b7_3 : Int) (b7_4 : Int) (kb7_5 : ((List UInt8) × ((List UInt8) × ((List UInt8) × ((List GExpr) × ((List GQuery) × ((List GToken) × (Int × Bool)))))))) : St := ⟨[(0, (.ptr 1000000 0)), (1, (.fn 1000025 [(.ptr 1000000 0)])), (2, (.d (.sl 1 (p2.map cI)))), (6, (.ptr 6 0)), (7, (.ptr 7 0))], [(6, [(vI 0), (vI 0), (vB false), (vI 0), (vI 0), (vS []), (vS []), (vS []), (.nil 10), (.nil 6)]), (7, bGExpr (GExpr.mk b7_0 b7_1 b7_2 (GValue.mk b7_3 b7_4 kb7_5.1) kb7_5.2.1 kb7_5.2.2.1 kb7_5.2.2.2.1 kb7_5.2.2.2.2.1)), (1000000, bGParser (GParser.mk kb7_5.2.2.2.2.2.1 kb7_5.2.2.2.2.2.2.1 kb7_5.2.2.2.2.2.2.2))]⟩
abbrev moiParser_chain_iParser_and_L0 (p2 : (List Int)) (b7_0 : Int) (b7_1 : Int) (b7_2 : Bool) (b7_3 : Int) (b7_4 : Int) (kb7_5 : ((List UInt8) × ((List UInt8) × ((List UInt8) × ((List GExpr) × ((List GQuery) × ((List GToken) × (Int × Bool)))))))) (r : GExpr × GParser) : Prop := avc Tryz.prog aciParser_chain_iParser_and_L0 (qiParser_chain_iParser_and_0 r) (stiParser_chain_iParser_and_L0 p2 b7_0 b7_1 b7_2 b7_3 b7_4 kb7_5)
def aciParser_and : AC := (.seq (.ops [.alc 2 [(.d (.i .i64 0)), (.d (.i .i64 0)), (.d (.b false)), (.d (.i .i64 0)), (.d (.i .i64 0)), (.d (.s (bs []))), (.d (.s (bs []))), (.d (.s (bs []))), (.nil 10), (.nil 6)]]) (.seq (.ops [.mv 3 0, .mv 4 0, .mkf 5 1000039 [4], .bsl 6 3 1 [(kI 2)], .call (some 7) 24 [3, 5, 6], .st 10 2 7]) .ret))
theorem triParser_and : trFn Tryz.prog 25 = some (aciParser_and, [.ld 0 10 true 2], 8) := by kernel_rfl
def qiParser_and (r : GExpr × GParser) : Exit → St → Prop := retQ [.ld 0 10 true 2] fun x b => x = (fun (y : GExpr × GParser) => (vGExpr y.1)) r ∧ bxHas ((fun (y : GExpr × GParser) => [(1000000, bGParser y.2)]) r) b
def aciParser_chain_iParser_not_L0 : AC := (.loop (.block 1 (.seq (.ops [.mv 11 0, .mv 12 2, .call (some 13) 37 [11, 12], .asg 8 13]) (.seq (.seq (.ops [.mv 14 8, .bin 15 .eql 14 (kI 0)]) (.cond 15 (.seq (.ops [.ld 16 10 true 7, .st 10 6 16]) .ret) .skip)) (.dops [[], [], [], [2], [0, 1, 3, 3], [4, 4, 0, 1, 2, 3, 4]] [.mv 17 8, .ld 18 10 true 7, .mv 19 1, .callv (some 20) 19 [], .call (some 21) 38 [17, 18, 20], .st 10 7 21])))))
def aciParser_chain_iParser_not : AC := (.seq (.ops [.alc 6 [(.d (.i .i64 0)), (.d (.i .i64 0)), (.d (.b false)), (.d (.i .i64 0)), (.d (.i .i64 0)), (.d (.s (bs []))), (.d (.s (bs []))), (.d (.s (bs []))), (.nil 10), (.nil 6)]]) (.seq (.ops [.mv 9 1, .callv (some 10) 9 [], .alc 7 [(.d (.i .i64 0)), (.d (.i .i64 0)), (.d (.b false)), (.d (.i .i64 0)), (.d (.i .i64 0)), (.d (.s (bs []))), (.d (.s (bs []))), (.d (.s (bs []))), (.nil 10), (.nil 6)], .st 10 7 10]) (.block 0 aciParser_chain_iParser_not_L0)))
theorem triParser_chain_iParser_not : trFn Tryz.prog 24 = some (aciParser_chain_iParser_not, [.ld 0 10 true 6], 22) := by kernel_rfl
def qiParser_chain_iParser_not (r : GExpr × GParser) : Exit → St → Prop := retQ [.ld 0 10 true 6] fun x b => x = (fun (y : GExpr × GParser) => (vGExpr y.1)) r ∧ bxHas ((fun (y : GExpr × GParser) => [(1000000, bGParser y.2)]) r) b
def qiParser_chain_iParser_not_0 (r : GExpr × GParser) : Exit → St → Prop := (blockK 0 (qiParser_chain_iParser_not r))
def stiParser_chain_iParser_not_L0 (p2 : (List Int)) (b7_0 : Int) (b7_1 : Int) (b7_2 : Bool) (b7_3 : Int) (b7_4 : Int) (kb7_5 : ((List UInt8) × ((List UInt8) × ((List UInt8) × ((List GExpr) × ((List GQuery) × ((List GToken) × (Int × Bool)))))))) : St := ⟨[(0, (.ptr 1000000 0)), (1, (.fn 1000039 [(.ptr 1000000 0)])), (2, (.d (.sl 1 (p2.map cI)))), (6, (.ptr 6 0)), (7, (.ptr 7 0))], [(6, [(vI 0), (vI 0), (vB false), (vI 0), (vI 0), (vS []), (vS []), (vS []), (.nil 10), (.nil 6)]), (7, bGExpr (GExpr.mk b7_0 b7_1 b7_2 (GValue.mk b7_3 b7_4 kb7_5.1) kb7_5.2.1 kb7_5.2.2.1 kb7_5.2.2.2.1 kb7_5.2.2.2.2.1)), (1000000, bGParser (GParser.mk kb7_5.2.2.2.2.2.1 kb7_5.2.2.2.2.2.2.1 kb7_5.2.2.2.2.2.2.2))]⟩
abbrev moiParser_chain_iParser_not_L0 (p2 : (List Int)) (b7_0 : Int) (b7_1 : Int) (b7_2 : Bool) (b7_3 : Int) (b7_4 : Int) (kb7_5 : ((List UInt8) × ((List UInt8) × ((List UInt8) × ((List GExpr) × ((List GQuery) × ((List GToken) × (Int × Bool)))))))) (r : GExpr × GParser) : Prop := avc Tryz.prog aciParser_chain_iParser_not_L0 (qiParser_chain_iParser_not_0 r) (stiParser_chain_iParser_not_L0 p2 b7_0 b7_1 b7_2 b7_3 b7_4 kb7_5)
def aciParser_not : AC := (.seq (.ops [.alc 2 [(.d (.i .i64 0)), (.d (.i .i64 0)), (.d (.b false)), (.d (.i .i64 0)), (.d (.i .i64 0)), (.d (.s (bs []))), (.d (.s (bs []))), (.d (.s (bs []))), (.nil 10), (.nil 6)]]) (.seq (.seq (.ops [.mv 3 0, .call (some 4) 52 [3, (.c (.d (.s (bs [78, 79, 84]))))]]) (.cond 4 (.seq (.ops [.mv 5 0, .call (some 6) 39 [5], .bsl 7 37 10 [6], .bld 8 [(.d (.i .i64 0)), (.d (.i .i64 0)), (.d (.b false)), (.d (.i .i64 0)), (.d (.i .i64 0)), (.d (.s (bs []))), (.d (.s (bs []))), (.d (.s (bs []))), (.nil 10), (.nil 6)] [(0, 1, (kI 3)), (1, 1, (kI 15)), (8, 1, 7)], .st 10 2 8]) .ret) .skip)) (.seq (.ops [.mv 9 0, .call (some 10) 53 [9], .st 10 2 10]) .ret)))
theorem triParser_not : trFn Tryz.prog 39 = some (aciParser_not, [.ld 0 10 true 2], 11) := by kernel_rfl
def qiParser_not (r : GExpr × GParser) : Exit → St → Prop := retQ [.ld 0 10 true 2] fun x b => x = (fun (y : GExpr × GParser) => (vGExpr y.1)) r ∧ bxHas ((fun (y : GExpr × GParser) => [(1000000, bGParser y.2)]) r) b
def aciParser_takeKey_J0 : AC := (.seq (.ops [.mv 17 5, .asg 4 17]) .ret)
def aciParser_takeKey : AC := (.seq (.ops [.asg 4 (kB false)]) (.seq (.ops [.mv 6 0, .mv 7 1, .call (some 8) 60 [6, 7], .asg 5 8]) (.seq (.seq (.ops [.mv 9 5]) (.cond 9 (.ops [.mv 10 0, .nck 11 10, .fa 12 1 11, .ld 13 1 false 12, .bin 14 .add 13 (kI 1), .nck 15 10, .fa 16 1 15, .st 1 16 14]) .skip)) aciParser_takeKey_J0)))
theorem triParser_takeKey : trFn Tryz.prog 52 = some (aciParser_takeKey, [.mv 0 4], 18) := by kernel_rfl
def qiParser_takeKey (r : Bool × GParser) : Exit → St → Prop := retQ [.mv 0 4] fun x b => x = (fun (y : Bool × GParser) => (vB y.1)) r ∧ bxHas ((fun (y : Bool × GParser) => [(1000000, bGParser y.2)]) r) b
def stiParser_takeKey_J0 (y1 : Bool) (p0 : GParser) (b1000000_1 : Int) : St := ⟨[(5, (vB y1))], [(1000000, bGParser (GParser.mk p0.list b1000000_1 p0.failed))]⟩
abbrev moiParser_takeKey_J0 (y1 : Bool) (p0 : GParser) (b1000000_1 : Int) (r : Bool × GParser) : Prop := avc Tryz.prog aciParser_takeKey_J0 (qiParser_takeKey r) (stiParser_takeKey_J0 y1 p0 b1000000_1)
def aciParser_isKey : AC := (.seq (.ops [.asg 4 (kB false)]) (.seq (.ops [.mv 5 0, .mv 6 1, .call (some 7) 50 [5, (kI 0), (kI 1), 6], .asg 4 7]) .ret))
theorem triParser_isKey : trFn Tryz.prog 60 = some (aciParser_isKey, [.mv 0 4], 8) := by kernel_rfl
def qiParser_isKey (p0 : GParser) (r : Bool) : Exit → St → Prop := retQ [.mv 0 4] fun x b => x = (fun (y : Bool) => (vB y)) r ∧ bxHas ((fun (y : Bool) => [(1000000, bGParser p0)]) r) b
def aciParser_is : AC := (.seq (.ops [.asg 8 (kB false)]) (.seq (.ops [.mv 10 0, .nck 11 10, .fa 12 1 11, .ld 13 1 false 12, .mv 14 1, .bin 15 .add 13 14, .asg 9 15]) (.seq (.ops [.mv 16 0, .nck 17 16, .fa 18 2 17, .ld 19 1 false 18, .not 20 19, .mv 21 20, .g 21 true (.mv 22 9), .g 21 true (.mv 23 0), .g 21 true (.nck 24 23), .g 21 true (.fa 25 0 24), .g 21 true (.ld 26 1 false 25), .g 21 true (.len 27 26), .g 21 true (.bin 28 .lss 22 27), .pick 29 21 28 (kB false), .mv 30 29, .g 30 true (.mv 31 0), .g 30 true (.nck 32 31), .g 30 true (.fa 33 0 32), .g 30 true (.ld 34 1 false 33), .g 30 true (.mv 35 9), .g 30 true (.ia 36 3 34 35), .g 30 true (.fa 37 0 36), .g 30 true (.ld 38 1 false 37), .g 30 true (.mv 39 2), .g 30 true (.bin 40 .eql 38 39), .pick 41 30 40 (kB false), .mv 42 41, .g 42 true (.mv 43 0), .g 42 true (.nck 44 43), .g 42 true (.fa 45 0 44), .g 42 true (.ld 46 1 false 45), .g 42 true (.mv 47 9), .g 42 true (.ia 48 3 46 47), .g 42 true (.fa 49 1 48), .g 42 true (.ld 50 1 false 49), .g 42 true (.mv 51 3), .g 42 true (.bin 52 .eql 50 51), .pick 53 42 52 (kB false), .asg 8 53]) .ret)))
theorem triParser_is : trFn Tryz.prog 50 = some (aciParser_is, [.mv 0 8], 54) := by kernel_rfl
def qiParser_is (p0 : GParser) (r : Bool) : Exit → St → Prop := retQ [.mv 0 8] fun x b => x = (fun (y : Bool) => (vB y)) r ∧ bxHas ((fun (y : Bool) => [(1000000, bGParser p0)]) r) b
def aciParser_cmp : AC := (.seq (.ops [.alc 2 [(.d (.i .i64 0)), (.d (.i .i64 0)), (.d (.b false)), (.d (.i .i64 0)), (.d (.i .i64 0)), (.d (.s (bs []))), (.d (.s (bs []))), (.d (.s (bs []))), (.nil 10), (.nil 6)]]) (.seq (.ops [.mv 8 0, .call (some 9) 61 [8], .alc 3 [(.d (.i .i64 0)), (.d (.i .i64 0)), (.d (.b false)), (.d (.i .i64 0)), (.d (.i .i64 0)), (.d (.s (bs []))), (.d (.s (bs []))), (.d (.s (bs []))), (.nil 10), (.nil 6)], .st 10 3 9]) (.seq (.seq (.ops [.mv 10 0, .bsl 11 3 1 [(kI 3), (kI 4), (kI 5), (kI 6), (kI 7), (kI 8)], .call (some 12) 37 [10, 11], .asg 4 12]) (.seq (.ops [.mv 13 4, .bin 14 .neq 13 (kI 0)]) (.cond 14 (.seq (.dops [[], [], [], [2], [0, 1, 3, 3], [4, 4, 0, 1, 2, 3, 4]] [.mv 15 4, .ld 16 10 true 3, .mv 17 0, .call (some 18) 61 [17], .call (some 19) 38 [15, 16, 18], .st 10 2 19]) .ret) .skip))) (.seq (.seq (.ops [.mv 20 0, .call (some 21) 52 [20, (.c (.d (.s (bs [73, 83]))))]]) (.cond 21 (.seq (.ops [.mv 22 0, .call (some 23) 52 [22, (.c (.d (.s (bs [78, 79, 84]))))], .asg 5 23]) (.seq (.ops [.mv 24 0, .call (some 25) 62 [24, (.c (.d (.s (bs [78, 85, 76, 76]))))]]) (.seq (.ops [.mv 26 5, .ld 27 10 true 3, .bsl 28 37 10 [27], .bld 29 [(.d (.i .i64 0)), (.d (.i .i64 0)), (.d (.b false)), (.d (.i .i64 0)), (.d (.i .i64 0)), (.d (.s (bs []))), (.d (.s (bs []))), (.d (.s (bs []))), (.nil 10), (.nil 6)] [(0, 1, (kI 5)), (2, 1, 26), (8, 1, 28)], .st 10 2 29]) .ret))) .skip)) (.seq (.ops [.mv 30 0, .call (some 31) 52 [30, (.c (.d (.s (bs [78, 79, 84]))))], .asg 6 31]) (.seq (.block 0 (.seq (.ops [.mv 33 0, .call (some 34) 52 [33, (.c (.d (.s (bs [66, 69, 84, 87, 69, 69, 78]))))], .asg 32 34]) (.cond 32 (.seq (.ops [.mv 35 0, .call (some 36) 61 [35], .alc 7 [(.d (.i .i64 0)), (.d (.i .i64 0)), (.d (.b false)), (.d (.i .i64 0)), (.d (.i .i64 0)), (.d (.s (bs []))), (.d (.s (bs []))), (.d (.s (bs []))), (.nil 10), (.nil 6)], .st 10 7 36]) (.seq (.ops [.mv 37 0, .call (some 38) 62 [37, (.c (.d (.s (bs [65, 78, 68]))))]]) (.seq (.dops [[], [], [], [], [3], [1, 2, 4], [0, 5], [6, 4, 0, 1, 2, 3, 4, 5, 6]] [.mv 39 6, .ld 40 10 true 3, .ld 41 10 true 7, .mv 42 0, .call (some 43) 61 [42], .bsl 44 37 10 [40, 41, 43], .bld 45 [(.d (.i .i64 0)), (.d (.i .i64 0)), (.d (.b false)), (.d (.i .i64 0)), (.d (.i .i64 0)), (.d (.s (bs []))), (.d (.s (bs []))), (.d (.s (bs []))), (.nil 10), (.nil 6)] [(0, 1, (kI 6)), (2, 1, 39), (8, 1, 44)], .st 10 2 45]) .ret))) (.seq (.ops [.mv 47 0, .call (some 48) 52 [47, (.c (.d (.s (bs [73, 78]))))], .asg 46 48]) (.cond 46 (.seq (.ops [.mv 49 0, .ld 50 10 true 3, .mv 51 6, .call (some 52) 63 [49, 50, 51], .st 10 2 52]) .ret) .skip))))) (.seq (.ops [.mv 53 0, .mv 54 0, .nck 55 54, .fa 56 2 55, .ld 57 1 false 56, .mv 58 57, .g 58 false (.mv 59 6), .pick 60 58 (kB true) 59, .nck 61 53, .fa 62 2 61, .st 1 62 60]) (.seq (.ops [.ld 63 10 true 3, .st 10 2 63]) .ret))))))))
theorem triParser_cmp : trFn Tryz.prog 53 = some (aciParser_cmp, [.ld 0 10 true 2], 64) := by kernel_rfl
def qiParser_cmp (r : GExpr × GParser) : Exit → St → Prop := retQ [.ld 0 10 true 2] fun x b => x = (fun (y : GExpr × GParser) => (vGExpr y.1)) r ∧ bxHas ((fun (y : GExpr × GParser) => [(1000000, bGParser y.2)]) r) b
def aciBin : AC := (.seq (.ops [.box 4 37 1, .box 5 37 2, .alc 6 [(.d (.i .i64 0)), (.d (.i .i64 0)), (.d (.b false)), (.d (.i .i64 0)), (.d (.i .i64 0)), (.d (.s (bs []))), (.d (.s (bs []))), (.d (.s (bs []))), (.nil 10), (.nil 6)]]) (.seq (.ops [.mv 7 0, .ld 8 10 true 4, .ld 9 10 true 5, .bsl 10 37 10 [8, 9], .bld 11 [(.d (.i .i64 0)), (.d (.i .i64 0)), (.d (.b false)), (.d (.i .i64 0)), (.d (.i .i64 0)), (.d (.s (bs []))), (.d (.s (bs []))), (.d (.s (bs []))), (.nil 10), (.nil 6)] [(0, 1, (kI 4)), (1, 1, 7), (8, 1, 10)], .st 10 6 11]) .ret))
theorem triBin : trFn Tryz.prog 38 = some (aciBin, [.ld 0 10 true 6], 12) := by kernel_rfl
def qiBin (r : GExpr) : Exit → St → Prop := retQ [.ld 0 10 true 6] fun x _ => x = (fun y => (vGExpr y)) r
def aciParser_mustKey : AC := (.seq (.ops [.mv 4 0, .mv 5 1, .call (some 6) 52 [4, 5], .not 7 6]) (.cond 7 (.ops [.mv 8 0, .nck 9 8, .fa 10 2 9, .st 1 10 (kB true)]) .skip))
theorem triParser_mustKey : trFn Tryz.prog 62 = some (aciParser_mustKey, [], 11) := by kernel_rfl
def qiParser_mustKey (r : GParser) : Exit → St → Prop := retQ [] fun x b => x = (fun (y : GParser) => (.tup [])) r ∧ bxHas ((fun (y : GParser) => [(1000000, bGParser y)]) r) b
def aciParser_takeOp_J1 : AC := (.seq (.ops [.mv 20 0, .mv 21 7, .mv 22 6, .call (some 23) 51 [22], .call (some 24) 50 [20, (kI 0), 21, 23]]) (.cond 24 (.seq (.ops [.mv 25 0, .nck 26 25, .fa 27 1 26, .ld 28 1 false 27, .bin 29 .add 28 (kI 1), .nck 30 25, .fa 31 1 30, .st 1 31 29]) (.seq (.ops [.mv 32 6, .asg 4 32]) .ret)) .skip))
def cciParser_takeOp_1 : AC := (.ops [.bin 33 .add 10 (kI 1), .mv 10 33])
def aciParser_takeOp_L0 : AC := (.loop (.seq (.ops [.bin 11 .lss 10 9]) (.seq (.cond 11 .skip (.exit 0)) (.seq (.block 1 (.seq (.ops [.ia 12 1 8 10, .ld 13 1 false 12, .asg 6 13]) (.seq (.ops [.asg 7 (kI 5)]) (.seq (.seq (.ops [.mv 14 6, .bin 15 .eql 14 (kI 1), .mv 16 15, .g 16 false (.mv 17 6), .g 16 false (.bin 18 .eql 17 (kI 2)), .pick 19 16 (kB true) 18]) (.cond 19 (.ops [.asg 7 (kI 1)]) .skip)) aciParser_takeOp_J1)))) cciParser_takeOp_1))))
def cciParser_takeOp_0 : AC := (.seq (.ops [.asg 4 (kI 0)]) .ret)
def aciParser_takeOp : AC := (.seq (.ops [.asg 4 (kI 0)]) (.seq (.seq (.ops [.mv 8 1, .len 9 8, .mv 10 (kI 0)]) (.block 0 aciParser_takeOp_L0)) cciParser_takeOp_0))
theorem triParser_takeOp : trFn Tryz.prog 37 = some (aciParser_takeOp, [.mv 0 4], 34) := by kernel_rfl
def qiParser_takeOp (r : Int × GParser) : Exit → St → Prop := retQ [.mv 0 4] fun x b => x = (fun (y : Int × GParser) => (vI y.1)) r ∧ bxHas ((fun (y : Int × GParser) => [(1000000, bGParser y.2)]) r) b
def qiParser_takeOp_0 (r : Int × GParser) : Exit → St → Prop := (thenK (wkK (avc Tryz.prog cciParser_takeOp_0 (qiParser_takeOp r))) (qiParser_takeOp r))
def qiParser_takeOp_1 (r : Int × GParser) : Exit → St → Prop := (blockK 0 (qiParser_takeOp_0 r))
def qiParser_takeOp_2 (r : Int × GParser) : Exit → St → Prop := (thenK (avc Tryz.prog aciParser_takeOp_L0 (qiParser_takeOp_1 r)) (qiParser_takeOp_1 r))
def qiParser_takeOp_3 (r : Int × GParser) : Exit → St → Prop := (thenK (wkK (avc Tryz.prog cciParser_takeOp_1 (qiParser_takeOp_2 r))) (qiParser_takeOp_2 r))
def qiParser_takeOp_4 (r : Int × GParser) : Exit → St → Prop := (blockK 1 (qiParser_takeOp_3 r))
def stiParser_takeOp_L0 (p1 : (List Int)) (p0 : GParser) (x10 : Int) : St := ⟨[(0, (.ptr 1000000 0)), (8, (.d (.sl 1 (p1.map cI)))), (9, (vI (p1.length : Int))), (10, (vI x10))], [(1000000, bGParser p0)]⟩
abbrev moiParser_takeOp_L0 (p1 : (List Int)) (p0 : GParser) (x10 : Int) (r : Int × GParser) : Prop := avc Tryz.prog aciParser_takeOp_L0 (qiParser_takeOp_1 r) (stiParser_takeOp_L0 p1 p0 x10)
def stiParser_takeOp_J1 (y1 : Int) (p1 : (List Int)) (x10 : Int) (p0 : GParser) (x7 : Int) : St := ⟨[(0, (.ptr 1000000 0)), (6, (vI y1)), (7, (vI x7)), (8, (.d (.sl 1 (p1.map cI)))), (9, (vI (p1.length : Int))), (10, (vI x10))], [(1000000, bGParser p0)]⟩
abbrev moiParser_takeOp_J1 (y1 : Int) (p1 : (List Int)) (x10 : Int) (p0 : GParser) (x7 : Int) (r : Int × GParser) : Prop := avc Tryz.prog aciParser_takeOp_J1 (qiParser_takeOp_4 r) (stiParser_takeOp_J1 y1 p1 x10 p0 x7)
def aciOpText : AC := (.seq (.ops [.asg 2 (.c (.d (.s (bs []))))]) (.seq (.seq (.ops [.mv 3 0, .bin 4 .lss 3 (kI 1), .mv 5 4, .g 5 false (.mv 6 0), .g 5 false (.bin 7 .gtr 6 (kI 16)), .pick 8 5 (kB true) 7]) (.cond 8 (.seq (.ops [.asg 2 (.c (.d (.s (bs []))))]) .ret) .skip)) (.seq (.ops [.bsl 9 9 1 [(.c (.d (.s (bs [79, 82])))), (.c (.d (.s (bs [65, 78, 68])))), (.c (.d (.s (bs [61])))), (.c (.d (.s (bs [60, 62])))), (.c (.d (.s (bs [60])))), (.c (.d (.s (bs [60, 61])))), (.c (.d (.s (bs [62])))), (.c (.d (.s (bs [62, 61])))), (.c (.d (.s (bs [124, 124])))), (.c (.d (.s (bs [43])))), (.c (.d (.s (bs [45])))), (.c (.d (.s (bs [42])))), (.c (.d (.s (bs [47])))), (.c (.d (.s (bs [37])))), (.c (.d (.s (bs [78, 79, 84])))), (.c (.d (.s (bs [45]))))], .mv 10 0, .bin 11 .sub 10 (kI 1), .ia 12 1 9 11, .ld 13 1 false 12, .asg 2 13]) .ret)))
theorem triOpText : trFn Tryz.prog 51 = some (aciOpText, [.mv 0 2], 14) := by kernel_rfl
def qiOpText (r : (List UInt8)) : Exit → St → Prop := retQ [.mv 0 2] fun x _ => x = (fun y => (vS y)) r
def aciParser_cat : AC := (.seq (.ops [.alc 2 [(.d (.i .i64 0)), (.d (.i .i64 0)), (.d (.b false)), (.d (.i .i64 0)), (.d (.i .i64 0)), (.d (.s (bs []))), (.d (.s (bs []))), (.d (.s (bs []))), (.nil 10), (.nil 6)]]) (.seq (.ops [.mv 3 0, .mv 4 0, .mkf 5 1000064 [4], .bsl 6 3 1 [(kI 9)], .call (some 7) 24 [3, 5, 6], .st 10 2 7]) .ret))
theorem triParser_cat : trFn Tryz.prog 61 = some (aciParser_cat, [.ld 0 10 true 2], 8) := by kernel_rfl
def qiParser_cat (r : GExpr × GParser) : Exit → St → Prop := retQ [.ld 0 10 true 2] fun x b => x = (fun (y : GExpr × GParser) => (vGExpr y.1)) r ∧ bxHas ((fun (y : GExpr × GParser) => [(1000000, bGParser y.2)]) r) b
def aciParser_chain_iParser_sum_L0 : AC := (.loop (.block 1 (.seq (.ops [.mv 11 0, .mv 12 2, .call (some 13) 37 [11, 12], .asg 8 13]) (.seq (.seq (.ops [.mv 14 8, .bin 15 .eql 14 (kI 0)]) (.cond 15 (.seq (.ops [.ld 16 10 true 7, .st 10 6 16]) .ret) .skip)) (.dops [[], [], [], [2], [0, 1, 3, 3], [4, 4, 0, 1, 2, 3, 4]] [.mv 17 8, .ld 18 10 true 7, .mv 19 1, .callv (some 20) 19 [], .call (some 21) 38 [17, 18, 20], .st 10 7 21])))))
def aciParser_chain_iParser_sum : AC := (.seq (.ops [.alc 6 [(.d (.i .i64 0)), (.d (.i .i64 0)), (.d (.b false)), (.d (.i .i64 0)), (.d (.i .i64 0)), (.d (.s (bs []))), (.d (.s (bs []))), (.d (.s (bs []))), (.nil 10), (.nil 6)]]) (.seq (.ops [.mv 9 1, .callv (some 10) 9 [], .alc 7 [(.d (.i .i64 0)), (.d (.i .i64 0)), (.d (.b false)), (.d (.i .i64 0)), (.d (.i .i64 0)), (.d (.s (bs []))), (.d (.s (bs []))), (.d (.s (bs []))), (.nil 10), (.nil 6)], .st 10 7 10]) (.block 0 aciParser_chain_iParser_sum_L0)))
theorem triParser_chain_iParser_sum : trFn Tryz.prog 24 = some (aciParser_chain_iParser_sum, [.ld 0 10 true 6], 22) := by kernel_rfl
def qiParser_chain_iParser_sum (r : GExpr × GParser) : Exit → St → Prop := retQ [.ld 0 10 true 6] fun x b => x = (fun (y : GExpr × GParser) => (vGExpr y.1)) r ∧ bxHas ((fun (y : GExpr × GParser) => [(1000000, bGParser y.2)]) r) b
def qiParser_chain_iParser_sum_0 (r : GExpr × GParser) : Exit → St → Prop := (blockK 0 (qiParser_chain_iParser_sum r))
def stiParser_chain_iParser_sum_L0 (p2 : (List Int)) (b7_0 : Int) (b7_1 : Int) (b7_2 : Bool) (b7_3 : Int) (b7_4 : Int) (kb7_5 : ((List UInt8) × ((List UInt8) × ((List UInt8) × ((List GExpr) × ((List GQuery) × ((List GToken) × (Int × Bool)))))))) : St := ⟨[(0, (.ptr 1000000 0)), (1, (.fn 1000064 [(.ptr 1000000 0)])), (2, (.d (.sl 1 (p2.map cI)))), (6, (.ptr 6 0)), (7, (.ptr 7 0))], [(6, [(vI 0), (vI 0), (vB false), (vI 0), (vI 0), (vS []), (vS []), (vS []), (.nil 10), (.nil 6)]), (7, bGExpr (GExpr.mk b7_0 b7_1 b7_2 (GValue.mk b7_3 b7_4 kb7_5.1) kb7_5.2.1 kb7_5.2.2.1 kb7_5.2.2.2.1 kb7_5.2.2.2.2.1)), (1000000, bGParser (GParser.mk kb7_5.2.2.2.2.2.1 kb7_5.2.2.2.2.2.2.1 kb7_5.2.2.2.2.2.2.2))]⟩
abbrev moiParser_chain_iParser_sum_L0 (p2 : (List Int)) (b7_0 : Int) (b7_1 : Int) (b7_2 : Bool) (b7_3 : Int) (b7_4 : Int) (kb7_5 : ((List UInt8) × ((List UInt8) × ((List UInt8) × ((List GExpr) × ((List GQuery) × ((List GToken) × (Int × Bool)))))))) (r : GExpr × GParser) : Prop := avc Tryz.prog aciParser_chain_iParser_sum_L0 (qiParser_chain_iParser_sum_0 r) (stiParser_chain_iParser_sum_L0 p2 b7_0 b7_1 b7_2 b7_3 b7_4 kb7_5)
def aciParser_sum : AC := (.seq (.ops [.alc 2 [(.d (.i .i64 0)), (.d (.i .i64 0)), (.d (.b false)), (.d (.i .i64 0)), (.d (.i .i64 0)), (.d (.s (bs []))), (.d (.s (bs []))), (.d (.s (bs []))), (.nil 10), (.nil 6)]]) (.seq (.ops [.mv 3 0, .mv 4 0, .mkf 5 1000068 [4], .bsl 6 3 1 [(kI 10), (kI 11)], .call (some 7) 24 [3, 5, 6], .st 10 2 7]) .ret))
theorem triParser_sum : trFn Tryz.prog 64 = some (aciParser_sum, [.ld 0 10 true 2], 8) := by kernel_rfl
def qiParser_sum (r : GExpr × GParser) : Exit → St → Prop := retQ [.ld 0 10 true 2] fun x b => x = (fun (y : GExpr × GParser) => (vGExpr y.1)) r ∧ bxHas ((fun (y : GExpr × GParser) => [(1000000, bGParser y.2)]) r) b
def aciParser_chain_iParser_prod_L0 : AC := (.loop (.block 1 (.seq (.ops [.mv 11 0, .mv 12 2, .call (some 13) 37 [11, 12], .asg 8 13]) (.seq (.seq (.ops [.mv 14 8, .bin 15 .eql 14 (kI 0)]) (.cond 15 (.seq (.ops [.ld 16 10 true 7, .st 10 6 16]) .ret) .skip)) (.dops [[], [], [], [2], [0, 1, 3, 3], [4, 4, 0, 1, 2, 3, 4]] [.mv 17 8, .ld 18 10 true 7, .mv 19 1, .callv (some 20) 19 [], .call (some 21) 38 [17, 18, 20], .st 10 7 21])))))
def aciParser_chain_iParser_prod : AC := (.seq (.ops [.alc 6 [(.d (.i .i64 0)), (.d (.i .i64 0)), (.d (.b false)), (.d (.i .i64 0)), (.d (.i .i64 0)), (.d (.s (bs []))), (.d (.s (bs []))), (.d (.s (bs []))), (.nil 10), (.nil 6)]]) (.seq (.ops [.mv 9 1, .callv (some 10) 9 [], .alc 7 [(.d (.i .i64 0)), (.d (.i .i64 0)), (.d (.b false)), (.d (.i .i64 0)), (.d (.i .i64 0)), (.d (.s (bs []))), (.d (.s (bs []))), (.d (.s (bs []))), (.nil 10), (.nil 6)], .st 10 7 10]) (.block 0 aciParser_chain_iParser_prod_L0)))
theorem triParser_chain_iParser_prod : trFn Tryz.prog 24 = some (aciParser_chain_iParser_prod, [.ld 0 10 true 6], 22) := by kernel_rfl
def qiParser_chain_iParser_prod (r : GExpr × GParser) : Exit → St → Prop := retQ [.ld 0 10 true 6] fun x b => x = (fun (y : GExpr × GParser) => (vGExpr y.1)) r ∧ bxHas ((fun (y : GExpr × GParser) => [(1000000, bGParser y.2)]) r) b
def qiParser_chain_iParser_prod_0 (r : GExpr × GParser) : Exit → St → Prop := (blockK 0 (qiParser_chain_iParser_prod r))
def stiParser_chain_iParser_prod_L0 (p2 : (List Int)) (b7_0 : Int) (b7_1 : Int) (b7_2 : Bool) (b7_3 : Int) (b7_4 : Int) (kb7_5 : ((List UInt8) × ((List UInt8) × ((List UInt8) × ((List GExpr) × ((List GQuery) × ((List GToken) × (Int × Bool)))))))) : St := ⟨[(0, (.ptr 1000000 0)), (1, (.fn 1000068 [(.ptr 1000000 0)])), (2, (.d (.sl 1 (p2.map cI)))), (6, (.ptr 6 0)), (7, (.ptr 7 0))], [(6, [(vI 0), (vI 0), (vB false), (vI 0), (vI 0), (vS []), (vS []), (vS []), (.nil 10), (.nil 6)]), (7, bGExpr (GExpr.mk b7_0 b7_1 b7_2 (GValue.mk b7_3 b7_4 kb7_5.1) kb7_5.2.1 kb7_5.2.2.1 kb7_5.2.2.2.1 kb7_5.2.2.2.2.1)), (1000000, bGParser (GParser.mk kb7_5.2.2.2.2.2.1 kb7_5.2.2.2.2.2.2.1 kb7_5.2.2.2.2.2.2.2))]⟩
abbrev moiParser_chain_iParser_prod_L0 (p2 : (List Int)) (b7_0 : Int) (b7_1 : Int) (b7_2 : Bool) (b7_3 : Int) (b7_4 : Int) (kb7_5 : ((List UInt8) × ((List UInt8) × ((List UInt8) × ((List GExpr) × ((List GQuery) × ((List GToken) × (Int × Bool)))))))) (r : GExpr × GParser) : Prop := avc Tryz.prog aciParser_chain_iParser_prod_L0 (qiParser_chain_iParser_prod_0 r) (stiParser_chain_iParser_prod_L0 p2 b7_0 b7_1 b7_2 b7_3 b7_4 kb7_5)
def aciParser_prod : AC := (.seq (.ops [.alc 2 [(.d (.i .i64 0)), (.d (.i .i64 0)), (.d (.b false)), (.d (.i .i64 0)), (.d (.i .i64 0)), (.d (.s (bs []))), (.d (.s (bs []))), (.d (.s (bs []))), (.nil 10), (.nil 6)]]) (.seq (.ops [.mv 3 0, .mv 4 0, .mkf 5 1000075 [4], .bsl 6 3 1 [(kI 12), (kI 13), (kI 14)], .call (some 7) 24 [3, 5, 6], .st 10 2 7]) .ret))
theorem triParser_prod : trFn Tryz.prog 68 = some (aciParser_prod, [.ld 0 10 true 2], 8) := by kernel_rfl
def qiParser_prod (r : GExpr × GParser) : Exit → St → Prop := retQ [.ld 0 10 true 2] fun x b => x = (fun (y : GExpr × GParser) => (vGExpr y.1)) r ∧ bxHas ((fun (y : GExpr × GParser) => [(1000000, bGParser y.2)]) r) b
def aciParser_chain_iParser_neg_L0 : AC := (.loop (.block 1 (.seq (.ops [.mv 11 0, .mv 12 2, .call (some 13) 37 [11, 12], .asg 8 13]) (.seq (.seq (.ops [.mv 14 8, .bin 15 .eql 14 (kI 0)]) (.cond 15 (.seq (.ops [.ld 16 10 true 7, .st 10 6 16]) .ret) .skip)) (.dops [[], [], [], [2], [0, 1, 3, 3], [4, 4, 0, 1, 2, 3, 4]] [.mv 17 8, .ld 18 10 true 7, .mv 19 1, .callv (some 20) 19 [], .call (some 21) 38 [17, 18, 20], .st 10 7 21])))))
def aciParser_chain_iParser_neg : AC := (.seq (.ops [.alc 6 [(.d (.i .i64 0)), (.d (.i .i64 0)), (.d (.b false)), (.d (.i .i64 0)), (.d (.i .i64 0)), (.d (.s (bs []))), (.d (.s (bs []))), (.d (.s (bs []))), (.nil 10), (.nil 6)]]) (.seq (.ops [.mv 9 1, .callv (some 10) 9 [], .alc 7 [(.d (.i .i64 0)), (.d (.i .i64 0)), (.d (.b false)), (.d (.i .i64 0)), (.d (.i .i64 0)), (.d (.s (bs []))), (.d (.s (bs []))), (.d (.s (bs []))), (.nil 10), (.nil 6)], .st 10 7 10]) (.block 0 aciParser_chain_iParser_neg_L0)))
theorem triParser_chain_iParser_neg : trFn Tryz.prog 24 = some (aciParser_chain_iParser_neg, [.ld 0 10 true 6], 22) := by kernel_rfl
def qiParser_chain_iParser_neg (r : GExpr × GParser) : Exit → St → Prop := retQ [.ld 0 10 true 6] fun x b => x = (fun (y : GExpr × GParser) => (vGExpr y.1)) r ∧ bxHas ((fun (y : GExpr × GParser) => [(1000000, bGParser y.2)]) r) b
def qiParser_chain_iParser_neg_0 (r : GExpr × GParser) : Exit → St → Prop := (blockK 0 (qiParser_chain_iParser_neg r))
def stiParser_chain_iParser_neg_L0 (p2 : (List Int)) (b7_0 : Int) (b7_1 : Int) (b7_2 : Bool) (b7_3 : Int) (b7_4 : Int) (kb7_5 : ((List UInt8) × ((List UInt8) × ((List UInt8) × ((List GExpr) × ((List GQuery) × ((List GToken) × (Int × Bool)))))))) : St := ⟨[(0, (.ptr 1000000 0)), (1, (.fn 1000075 [(.ptr 1000000 0)])), (2, (.d (.sl 1 (p2.map cI)))), (6, (.ptr 6 0)), (7, (.ptr 7 0))], [(6, [(vI 0), (vI 0), (vB false), (vI 0), (vI 0), (vS []), (vS []), (vS []), (.nil 10), (.nil 6)]), (7, bGExpr (GExpr.mk b7_0 b7_1 b7_2 (GValue.mk b7_3 b7_4 kb7_5.1) kb7_5.2.1 kb7_5.2.2.1 kb7_5.2.2.2.1 kb7_5.2.2.2.2.1)), (1000000, bGParser (GParser.mk kb7_5.2.2.2.2.2.1 kb7_5.2.2.2.2.2.2.1 kb7_5.2.2.2.2.2.2.2))]⟩
abbrev moiParser_chain_iParser_neg_L0 (p2 : (List Int)) (b7_0 : Int) (b7_1 : Int) (b7_2 : Bool) (b7_3 : Int) (b7_4 : Int) (kb7_5 : ((List UInt8) × ((List UInt8) × ((List UInt8) × ((List GExpr) × ((List GQuery) × ((List GToken) × (Int × Bool)))))))) (r : GExpr × GParser) : Prop := avc Tryz.prog aciParser_chain_iParser_neg_L0 (qiParser_chain_iParser_neg_0 r) (stiParser_chain_iParser_neg_L0 p2 b7_0 b7_1 b7_2 b7_3 b7_4 kb7_5)
def aciParser_neg : AC := (.seq (.ops [.alc 2 [(.d (.i .i64 0)), (.d (.i .i64 0)), (.d (.b false)), (.d (.i .i64 0)), (.d (.i .i64 0)), (.d (.s (bs []))), (.d (.s (bs []))), (.d (.s (bs []))), (.nil 10), (.nil 6)]]) (.seq (.seq (.ops [.mv 3 0, .call (some 4) 69 [3, (.c (.d (.s (bs [45]))))]]) (.cond 4 (.seq (.ops [.mv 5 0, .call (some 6) 75 [5], .bsl 7 37 10 [6], .bld 8 [(.d (.i .i64 0)), (.d (.i .i64 0)), (.d (.b false)), (.d (.i .i64 0)), (.d (.i .i64 0)), (.d (.s (bs []))), (.d (.s (bs []))), (.d (.s (bs []))), (.nil 10), (.nil 6)] [(0, 1, (kI 3)), (1, 1, (kI 16)), (8, 1, 7)], .st 10 2 8]) .ret) .skip)) (.seq (.ops [.mv 9 0, .call (some 10) 82 [9], .st 10 2 10]) .ret)))
theorem triParser_neg : trFn Tryz.prog 75 = some (aciParser_neg, [.ld 0 10 true 2], 11) := by kernel_rfl
def qiParser_neg (r : GExpr × GParser) : Exit → St → Prop := retQ [.ld 0 10 true 2] fun x b => x = (fun (y : GExpr × GParser) => (vGExpr y.1)) r ∧ bxHas ((fun (y : GExpr × GParser) => [(1000000, bGParser y.2)]) r) b
def aciParser_prim : AC := (.seq (.ops [.alc 2 [(.d (.i .i64 0)), (.d (.i .i64 0)), (.d (.b false)), (.d (.i .i64 0)), (.d (.i .i64 0)), (.d (.s (bs []))), (.d (.s (bs []))), (.d (.s (bs []))), (.nil 10), (.nil 6)]]) (.seq (.block 0 (.seq (.ops [.mv 7 0, .call (some 8) 77 [7, (kI 3)], .asg 6 8]) (.cond 6 (.seq (.ops [.mv 9 0, .call (some 10) 74 [9], .call (some 11) 87 [10], .call (some 12) 86 [11], .st 10 2 12]) .ret) (.seq (.ops [.mv 14 0, .call (some 15) 77 [14, (kI 4)], .asg 13 15]) (.cond 13 (.seq (.ops [.mv 16 0, .call (some 17) 78 [16, (kI 4)], .call (some 18) 88 [17], .call (some 19) 86 [18], .st 10 2 19]) .ret) (.seq (.ops [.mv 21 0, .call (some 22) 52 [21, (.c (.d (.s (bs [78, 85, 76, 76]))))], .asg 20 22]) (.cond 20 (.seq (.ops [.bld 23 [(.d (.i .i64 0)), (.d (.i .i64 0)), (.d (.s (bs [])))] [], .call (some 24) 86 [23], .st 10 2 24]) .ret) (.seq (.ops [.mv 26 0, .call (some 27) 52 [26, (.c (.d (.s (bs [84, 82, 85, 69]))))], .asg 25 27]) (.cond 25 (.seq (.ops [.call (some 28) 89 [(kB true)], .call (some 29) 86 [28], .st 10 2 29]) .ret) (.seq (.ops [.mv 31 0, .call (some 32) 52 [31, (.c (.d (.s (bs [70, 65, 76, 83, 69]))))], .asg 30 32]) (.cond 30 (.seq (.ops [.call (some 33) 89 [(kB false)], .call (some 34) 86 [33], .st 10 2 34]) .ret) (.seq (.ops [.mv 36 0, .call (some 37) 77 [36, (kI 2)], .asg 35 37]) (.cond 35 (.seq (.ops [.mv 38 0, .call (some 39) 78 [38, (kI 2)], .asg 3 39]) (.seq (.seq (.ops [.mv 40 0, .call (some 41) 69 [40, (.c (.d (.s (bs [46]))))]]) (.cond 41 (.seq (.ops [.mv 42 3, .mv 43 0, .call (some 44) 78 [43, (kI 2)], .bld 45 [(.d (.i .i64 0)), (.d (.i .i64 0)), (.d (.b false)), (.d (.i .i64 0)), (.d (.i .i64 0)), (.d (.s (bs []))), (.d (.s (bs []))), (.d (.s (bs []))), (.nil 10), (.nil 6)] [(0, 1, (kI 2)), (6, 1, 42), (7, 1, 44)], .st 10 2 45]) .ret) .skip)) (.seq (.ops [.mv 46 3, .bld 47 [(.d (.i .i64 0)), (.d (.i .i64 0)), (.d (.b false)), (.d (.i .i64 0)), (.d (.i .i64 0)), (.d (.s (bs []))), (.d (.s (bs []))), (.d (.s (bs []))), (.nil 10), (.nil 6)] [(0, 1, (kI 2)), (7, 1, 46)], .st 10 2 47]) .ret))) (.seq (.ops [.mv 49 0, .call (some 50) 69 [49, (.c (.d (.s (bs [40]))))], .asg 48 50]) (.cond 48 (.seq (.ops [.mv 51 0, .call (some 52) 16 [51], .alc 4 [(.d (.i .i64 0)), (.d (.i .i64 0)), (.d (.b false)), (.d (.i .i64 0)), (.d (.i .i64 0)), (.d (.s (bs []))), (.d (.s (bs []))), (.d (.s (bs []))), (.nil 10), (.nil 6)], .st 10 4 52]) (.seq (.ops [.mv 53 0, .call (some 54) 65 [53, (.c (.d (.s (bs [41]))))]]) (.seq (.ops [.ld 55 10 true 4, .st 10 2 55]) .ret))) (.seq (.ops [.mv 57 0, .call (some 58) 52 [57, (.c (.d (.s (bs [69, 88, 73, 83, 84, 83]))))], .asg 56 58]) (.cond 56 (.seq (.ops [.mv 59 0, .call (some 60) 65 [59, (.c (.d (.s (bs [40]))))]]) (.seq (.ops [.mv 61 0, .call (some 62) 66 [61], .alc 5 [(.d (.b false)), (.nil 13), (.nil 3), (.nil 10), (.nil 11), (.d (.i .i64 0))], .st 6 5 62]) (.seq (.ops [.mv 63 0, .call (some 64) 65 [63, (.c (.d (.s (bs [41]))))]]) (.seq (.ops [.ld 65 6 true 5, .bsl 66 70 6 [65], .bld 67 [(.d (.i .i64 0)), (.d (.i .i64 0)), (.d (.b false)), (.d (.i .i64 0)), (.d (.i .i64 0)), (.d (.s (bs []))), (.d (.s (bs []))), (.d (.s (bs []))), (.nil 10), (.nil 6)] [(0, 1, (kI 9)), (9, 1, 66)], .st 10 2 67]) .ret)))) .skip))))))))))))))))) (.seq (.ops [.mv 68 0, .nck 69 68, .fa 70 2 69, .st 1 70 (kB true)]) (.seq (.ops [.bld 71 [(.d (.i .i64 0)), (.d (.i .i64 0)), (.d (.b false)), (.d (.i .i64 0)), (.d (.i .i64 0)), (.d (.s (bs []))), (.d (.s (bs []))), (.d (.s (bs []))), (.nil 10), (.nil 6)] [], .st 10 2 71]) .ret))))
theorem triParser_prim : trFn Tryz.prog 82 = some (aciParser_prim, [.ld 0 10 true 2], 72) := by kernel_rfl
def qiParser_prim (r : GExpr × GParser) : Exit → St → Prop := retQ [.ld 0 10 true 2] fun x b => x = (fun (y : GExpr × GParser) => (vGExpr y.1)) r ∧ bxHas ((fun (y : GExpr × GParser) => [(1000000, bGParser y.2)]) r) b
def aciParser_isKind : AC := (.seq (.ops [.asg 4 (kB false)]) (.seq (.dops [[], [0], [1], [2], [3], [4], [5], [6, 5], [7, 5], [8, 5], [5], [10, 5], [11, 5], [12, 5], [13, 5], [9, 14, 5], [5, 15], [16, 5], [17], [18, 17], [19, 17], [20, 17], [17], [22, 17], [23, 17], [24, 17], [21, 25, 17], [26, 17], [27, 17], [17], [28, 29, 17], [17, 30], [31, 17], [32], [33, 32], [34, 32], [35, 32], [32], [37, 32], [38, 32], [39, 32], [36, 40, 32], [41, 32], [42, 32, 32], [32, 43], [44, 43, 0, 1, 2, 3, 4, 5, 6, 7, 8, 9, 10, 11, 12, 13, 14, 15, 16, 17, 18, 19, 20, 21, 22, 23, 24, 25, 26, 27, 28, 29, 30, 31, 32, 33, 34, 35, 36, 37, 38, 39, 40, 41, 42, 43, 44]] [.mv 5 0, .nck 6 5, .fa 7 2 6, .ld 8 1 false 7, .not 9 8, .mv 10 9, .g 10 true (.mv 11 0), .g 10 true (.nck 12 11), .g 10 true (.fa 13 1 12), .g 10 true (.ld 14 1 false 13), .g 10 true (.mv 15 0), .g 10 true (.nck 16 15), .g 10 true (.fa 17 0 16), .g 10 true (.ld 18 1 false 17), .g 10 true (.len 19 18), .g 10 true (.bin 20 .lss 14 19), .pick 21 10 20 (kB false), .mv 22 21, .g 22 true (.mv 23 0), .g 22 true (.nck 24 23), .g 22 true (.fa 25 0 24), .g 22 true (.ld 26 1 false 25), .g 22 true (.mv 27 0), .g 22 true (.nck 28 27), .g 22 true (.fa 29 1 28), .g 22 true (.ld 30 1 false 29), .g 22 true (.ia 31 3 26 30), .g 22 true (.fa 32 0 31), .g 22 true (.ld 33 1 false 32), .g 22 true (.mv 34 1), .g 22 true (.bin 35 .eql 33 34), .pick 36 22 35 (kB false), .mv 37 36, .g 37 true (.mv 38 0), .g 37 true (.nck 39 38), .g 37 true (.fa 40 0 39), .g 37 true (.ld 41 1 false 40), .g 37 true (.mv 42 0), .g 37 true (.nck 43 42), .g 37 true (.fa 44 1 43), .g 37 true (.ld 45 1 false 44), .g 37 true (.ia 46 3 41 45), .g 37 true (.ld 47 3 true 46), .g 37 true (.call (some 48) 83 [47]), .pick 49 37 48 (kB false), .asg 4 49]) .ret))
theorem triParser_isKind : trFn Tryz.prog 77 = some (aciParser_isKind, [.mv 0 4], 50) := by kernel_rfl
def qiParser_isKind (p0 : GParser) (r : Bool) : Exit → St → Prop := retQ [.mv 0 4] fun x b => x = (fun (y : Bool) => (vB y)) r ∧ bxHas ((fun (y : Bool) => [(1000000, bGParser p0)]) r) b
def aciTokenOk : AC := (.seq (.ops [.box 1 40 0, .asg 2 (kB false)]) (.seq (.seq (.ops [.fa 5 0 1, .ld 6 1 false 5]) (.block 0 (.seq (.ops [.bin 8 .eql 6 (kI 1), .asg 7 8]) (.cond 7 (.seq (.dops [[], [0], [1], [2], [3, 2], [4], [5, 4], [6, 4, 4], [4], [8, 4], [7, 9, 4], [4, 10], [11, 7, 0, 1, 2, 3, 4, 5, 6, 7, 8, 9, 10, 11]] [.fa 9 1 1, .ld 10 1 false 9, .call (some 11) 90 [10], .bin 12 .neq 11 (kI 0), .mv 13 12, .g 13 true (.fa 14 1 1), .g 13 true (.ld 15 1 false 14), .g 13 true (.call (some 16) 91 [15]), .g 13 true (.fa 17 1 1), .g 13 true (.ld 18 1 false 17), .g 13 true (.bin 19 .eql 16 18), .pick 20 13 19 (kB false), .asg 2 20]) .ret) (.seq (.ops [.bin 22 .eql 6 (kI 2), .asg 21 22]) (.cond 21 (.seq (.ops [.fa 23 1 1, .ld 24 1 false 23, .call (some 25) 92 [24], .asg 2 25]) .ret) (.seq (.ops [.bin 27 .eql 6 (kI 3), .asg 26 27]) (.cond 26 (.seq (.ops [.fa 29 1 1, .ld 30 1 false 29, .call (some 31) 81 [30], .mv 28 31, .ext 32 28 0, .ext 33 28 1, .asg 3 32, .asg 4 33]) (.seq (.ops [.mv 34 4, .asg 2 34]) .ret)) (.seq (.ops [.bin 36 .eql 6 (kI 4), .asg 35 36]) (.cond 35 (.seq (.ops [.fa 37 1 1, .ld 38 1 false 37, .lns 39 38, .bin 40 .leq 39 (kI 40), .asg 2 40]) .ret) (.seq (.ops [.bin 42 .eql 6 (kI 5), .asg 41 42]) (.cond 41 (.seq (.ops [.fa 43 1 1, .ld 44 1 false 43, .call (some 45) 93 [44], .asg 2 45]) .ret) .skip)))))))))))) (.seq (.ops [.asg 2 (kB false)]) .ret)))
theorem triTokenOk : trFn Tryz.prog 83 = some (aciTokenOk, [.mv 0 2], 46) := by kernel_rfl
def qiTokenOk (r : Bool) : Exit → St → Prop := retQ [.mv 0 2] fun x _ => x = (fun y => (vB y)) r
def aciSignOk : AC := (.seq (.ops [.asg 2 (kB false)]) (.seq (.ops [.call (some 3) 100 [], .mv 4 0, .call (some 5) 99 [3, 4], .asg 2 5]) .ret))
theorem triSignOk : trFn Tryz.prog 93 = some (aciSignOk, [.mv 0 2], 6) := by kernel_rfl
def qiSignOk (r : Bool) : Exit → St → Prop := retQ [.mv 0 2] fun x _ => x = (fun y => (vB y)) r
def aciSigns : AC := (.seq (.ops [.asg 0 (.c (.nil 1))]) (.seq (.ops [.bsl 1 9 1 [(.c (.d (.s (bs [40])))), (.c (.d (.s (bs [41])))), (.c (.d (.s (bs [44])))), (.c (.d (.s (bs [46])))), (.c (.d (.s (bs [42])))), (.c (.d (.s (bs [43])))), (.c (.d (.s (bs [45])))), (.c (.d (.s (bs [47])))), (.c (.d (.s (bs [37])))), (.c (.d (.s (bs [61])))), (.c (.d (.s (bs [60, 62])))), (.c (.d (.s (bs [60])))), (.c (.d (.s (bs [60, 61])))), (.c (.d (.s (bs [62])))), (.c (.d (.s (bs [62, 61])))), (.c (.d (.s (bs [124, 124]))))], .asg 0 1]) .ret))
theorem triSigns : trFn Tryz.prog 100 = some (aciSigns, [.mv 0 0], 2) := by kernel_rfl
def qiSigns (r : (List (List UInt8))) : Exit → St → Prop := retQ [.mv 0 0] fun x b => x = (fun (y : (List (List UInt8))) => (.osl 2000000 9 1 (y.map cStr))) r ∧ bxHas ((fun (y : (List (List UInt8))) => []) r) b
def acgSlices_Contains_Sstring_string : AC := (.seq (.ops [.asg 4 (kB false)]) (.seq (.ops [.mv 5 0, .mv 6 1, .call (some 7) 97 [5, 6], .bin 8 .geq 7 (kI 0), .asg 4 8]) .ret))
theorem trgSlices_Contains_Sstring_string : trFn Tryz.prog 99 = some (acgSlices_Contains_Sstring_string, [.mv 0 4], 9) := by kernel_rfl
def qgSlices_Contains_Sstring_string (r : Bool) : Exit → St → Prop := retQ [.mv 0 4] fun x _ => x = (fun y => (vB y)) r
def acgSlices_Index_Sstring_string_L0 : AC := (.loop (.seq (.ops [.bin 9 .lss 8 7]) (.seq (.cond 9 .skip (.exit 0)) (.seq (.block 1 (.seq (.ops [.mv 10 8, .asg 5 10]) (.seq (.ops [.mv 11 1, .mv 12 0, .mv 13 5, .ia 14 1 12 13, .ld 15 1 false 14, .bin 16 .eql 11 15]) (.cond 16 (.seq (.ops [.mv 17 5, .asg 4 17]) .ret) .skip)))) (.ops [.bin 18 .add 8 (kI 1), .mv 8 18])))))
def ccgSlices_Index_Sstring_string_0 : AC := (.seq (.ops [.asg 4 (kI (-1))]) .ret)
def acgSlices_Index_Sstring_string : AC := (.seq (.ops [.asg 4 (kI 0)]) (.seq (.seq (.ops [.mv 6 0, .len 7 6, .mv 8 (kI 0)]) (.block 0 acgSlices_Index_Sstring_string_L0)) ccgSlices_Index_Sstring_string_0))
theorem trgSlices_Index_Sstring_string : trFn Tryz.prog 97 = some (acgSlices_Index_Sstring_string, [.mv 0 4], 19) := by kernel_rfl
def qgSlices_Index_Sstring_string (r : Int) : Exit → St → Prop := retQ [.mv 0 4] fun x _ => x = (fun y => (vI y)) r
def qgSlices_Index_Sstring_string_0 (r : Int) : Exit → St → Prop := (thenK (wkK (avc Tryz.prog ccgSlices_Index_Sstring_string_0 (qgSlices_Index_Sstring_string r))) (qgSlices_Index_Sstring_string r))
def qgSlices_Index_Sstring_string_1 (r : Int) : Exit → St → Prop := (blockK 0 (qgSlices_Index_Sstring_string_0 r))
def stgSlices_Index_Sstring_string_L0 (p0 : (List (List UInt8))) (p1 : (List UInt8)) (x8 : Int) : St := ⟨[(0, (.d (.sl 1 (p0.map cStr)))), (1, (vS p1)), (7, (vI (p0.length : Int))), (8, (vI x8))], []⟩
abbrev mogSlices_Index_Sstring_string_L0 (p0 : (List (List UInt8))) (p1 : (List UInt8)) (x8 : Int) (r : Int) : Prop := avc Tryz.prog acgSlices_Index_Sstring_string_L0 (qgSlices_Index_Sstring_string_1 r) (stgSlices_Index_Sstring_string_L0 p0 p1 x8)
set_option maxHeartbeats 2000000 in
set_option maxRecDepth 100000 in
theorem digits_walk_85 (n : Int) (h0 : -9223372036854775808 ≤ n) (h1 : n ≤ 9223372036854775807) (w : World) (hv : NumVars 0 1 2 w) :
    Calls Tryz.prog 85 #[.int .i64 n] w fun e w' => e = .returned (.string ⟨(Lib.itoa n).toArray⟩) ∧ Grows w w' := by
  go_enter Tryz.func85, Tryz.ntmps85
  go_wp2_with (go_at_call 96; refine (num_itoa (g15 := 0) (g16 := 1) sh171 n h0 h1 _ hv).mono ?_; rintro e w' ⟨rfl, hw⟩)
  go_ret
  exact ⟨rfl, hw⟩
set_option maxHeartbeats 4000000 in
set_option maxRecDepth 100000 in
theorem number_walk_81 : NumWalk Tryz.prog 81 0 1 2 := by
  intro s w hs hv
  by_cases hok : ∃ v, Lib.atoiAll s.data.toList = .ok v
  · obtain ⟨v, hc⟩ := hok
    have hb := Lib.atoiAll_bounds hc
    by_cases hneg : v < 0
    · have hr : numG s.data.toList = (0, false) := by unfold numG; rw [hc]; simp only; rw [if_pos hneg]
      rw [hr]
      go_enter Tryz.func81, Tryz.ntmps81
      go_wp2_with (go_at_call 84; refine (num_ok sh172 s hs v hc _).mono ?_; rintro e w' ⟨rfl, hw⟩)
      go_ret2
      exact ⟨rfl, hw⟩
    · by_cases he : Lib.itoa v = s.data.toList
      · have hr : numG s.data.toList = (v, true) := by unfold numG; rw [hc]; simp only; rw [if_neg hneg, if_pos he]
        have hes : (⟨(Lib.itoa v).toArray⟩ : ByteArray) = s := by rw [he]
        rw [hr]
        go_enter Tryz.func81, Tryz.ntmps81
        go_wp2_with (go_at_call 84; refine (num_ok sh172 s hs v hc _).mono ?_; rintro e w' ⟨rfl, hw⟩)
        go_wp2_with (go_at_call 85; refine (digits_walk_85 v hb.1 hb.2 _ (hv.grow hw)).mono ?_; rintro e w2 ⟨rfl, hw2⟩; rw [hes])
        go_ret2
        exact ⟨rfl, hw.trans hw2⟩
      · have hr : numG s.data.toList = (0, false) := by unfold numG; rw [hc]; simp only; rw [if_neg hneg, if_neg he]
        have hne : (⟨(Lib.itoa v).toArray⟩ : ByteArray) ≠ s := fun e => he (by rw [← e])
        rw [hr]
        generalize hz : (⟨(Lib.itoa v).toArray⟩ : ByteArray) = z at hne
        go_enter Tryz.func81, Tryz.ntmps81
        go_wp2_with (go_at_call 84; refine (num_ok sh172 s hs v hc _).mono ?_; rintro e w' ⟨rfl, hw⟩)
        go_wp2_with (go_at_call 85; refine (digits_walk_85 v hb.1 hb.2 _ (hv.grow hw)).mono ?_; rintro e w2 ⟨rfl, hw2⟩; rw [hz])
        · go_ret2
          exact ⟨rfl, hw.trans hw2⟩
        · rename_i hh
          have h2 : z.data.toList = s.data.toList := by
            have := hh.2
            rw [Lib.toList_data, Lib.toList_data] at this
            simpa using this
          exact absurd ((Lib.mk_data z).symm.trans ((congrArg (fun l : List UInt8 => (⟨l.toArray⟩ : ByteArray)) h2).trans (Lib.mk_data s))) hne
  · have hno : ∀ v, Lib.atoiAll s.data.toList ≠ .ok v := fun v e => hok ⟨v, e⟩
    have hr : numG s.data.toList = (0, false) := by
      unfold numG
      split
      · rename_i n hn; exact absurd hn (hno n)
      · rfl
    rw [hr]
    obtain ⟨v, hcall⟩ := num_bad sh172 s hs hno w hv
    go_enter Tryz.func81, Tryz.ntmps81
    go_wp2_with (go_at_call 84; refine hcall.mono ?_)
    rintro e w' ⟨t, N, rfl, hw⟩
    go_wp2
    go_ret2
    exact ⟨rfl, hw⟩
def aciFold_J1 : AC := (.ops [.bin 27 .add 10 (kI 1), .mv 10 27])
def aciFold_L0 : AC := (.loop (.seq (.ops [.bin 11 .lss 10 9]) (.seq (.cond 11 .skip (.exit 0)) (.seq (.block 1 (.seq (.ops [.mv 12 10, .ia 13 1 8 10, .ld 14 1 false 13, .asg 4 12, .asg 5 14]) (.seq (.ops [.mv 15 5, .bin 16 .geq 15 (.c (.d (.i .u8 97))), .mv 17 16, .g 17 true (.mv 18 5), .g 17 true (.bin 19 .leq 18 (.c (.d (.i .u8 122)))), .pick 20 17 19 (kB false)]) (.cond 20 (.ops [.mv 21 3, .mv 22 4, .mv 23 5, .bin 24 .sub 23 (.c (.d (.i .u8 97))), .bin 25 .add 24 (.c (.d (.i .u8 65))), .ia 26 1 21 22, .st 1 26 25]) .skip)))) aciFold_J1))))
def aciFold_J2 : AC := (.seq (.ops [.mv 28 3, .cbs 29 28, .asg 2 29]) .ret)
def aciFold : AC := (.seq (.ops [.asg 2 (.c (.d (.s (bs []))))]) (.seq (.ops [.mv 6 0, .csb 7 5 6, .asg 3 7]) (.seq (.seq (.ops [.mv 8 3, .len 9 8, .mv 10 (kI 0)]) (.block 0 aciFold_L0)) aciFold_J2)))
theorem triFold : trFn Tryz.prog 91 = some (aciFold, [.mv 0 2], 30) := by kernel_rfl
def qiFold (r : (List UInt8)) : Exit → St → Prop := retQ [.mv 0 2] fun x _ => x = (fun y => (vS y)) r
def qiFold_0 (r : (List UInt8)) : Exit → St → Prop := (thenK (wkK (avc Tryz.prog aciFold_J2 (qiFold r))) (qiFold r))
def qiFold_1 (r : (List UInt8)) : Exit → St → Prop := (blockK 0 (qiFold_0 r))
def qiFold_2 (r : (List UInt8)) : Exit → St → Prop := (thenK (avc Tryz.prog aciFold_L0 (qiFold_1 r)) (qiFold_1 r))
def stiFold_L0 (p0 : (List UInt8)) (x10 : Int) (b60015000_0 : (List Int)) : St := ⟨[(3, (.tre 60015000)), (8, (.tre 60015000)), (9, (vI ((toBytes p0).length : Int))), (10, (vI x10))], [(60015000, [(.trc 1 (b60015000_0.map cU8))])]⟩
abbrev moiFold_L0 (p0 : (List UInt8)) (x10 : Int) (b60015000_0 : (List Int)) (r : (List UInt8)) : Prop := avc Tryz.prog aciFold_L0 (qiFold_1 r) (stiFold_L0 p0 x10 b60015000_0)
def stiFold_J1 (p0 : (List UInt8)) (x10 : Int) (b60050000_0 : (List Int)) : St := ⟨[(3, (.tre 60050000)), (8, (.tre 60050000)), (9, (vI ((toBytes p0).length : Int))), (10, (vI x10))], [(60050000, [(.trc 1 (b60050000_0.map cU8))])]⟩
abbrev moiFold_J1 (p0 : (List UInt8)) (x10 : Int) (b60050000_0 : (List Int)) (r : (List UInt8)) : Prop := avc Tryz.prog aciFold_J1 (qiFold_2 r) (stiFold_J1 p0 x10 b60050000_0)
def stiFold_J2 (x3 : (List Int)) : St := ⟨[(3, (.d (.sl 1 (x3.map cU8))))], []⟩
abbrev moiFold_J2 (x3 : (List Int)) (r : (List UInt8)) : Prop := avc Tryz.prog aciFold_J2 (qiFold r) (stiFold_J2 x3)
def aciKeyOf : AC := (.seq (.ops [.asg 2 (kI 0)]) (.seq (.ops [.call (some 3) 98 [], .mv 4 0, .call (some 5) 91 [4], .call (some 6) 97 [3, 5], .bin 7 .add 6 (kI 1), .asg 2 7]) .ret))
theorem triKeyOf : trFn Tryz.prog 90 = some (aciKeyOf, [.mv 0 2], 8) := by kernel_rfl
def qiKeyOf (r : Int) : Exit → St → Prop := retQ [.mv 0 2] fun x _ => x = (fun y => (vI y)) r
def aciKeywords : AC := (.seq (.ops [.asg 0 (.c (.nil 1))]) (.seq (.ops [.call (some 1) 107 [(.c (.d (.s (bs [83, 69, 76, 69, 67, 84, 32, 68, 73, 83, 84, 73, 78, 67, 84, 32, 70, 82, 79, 77, 32, 74, 79, 73, 78, 32, 79, 78, 32, 87, 72, 69, 82, 69, 32, 79, 82, 68, 69, 82, 32, 66, 89, 32, 65, 83, 67, 32, 68, 69, 83, 67, 32, 76, 73, 77, 73, 84, 32, 65, 83, 32, 65, 78, 68, 32, 79, 82, 32, 78, 79, 84, 32, 73, 83, 32, 73, 78, 32, 66, 69, 84, 87, 69, 69, 78, 32, 69, 88, 73, 83, 84, 83, 32, 78, 85, 76, 76, 32, 84, 82, 85, 69, 32, 70, 65, 76, 83, 69, 32, 73, 78, 83, 69, 82, 84, 32, 73, 78, 84, 79, 32, 86, 65, 76, 85, 69, 83, 32, 85, 80, 68, 65, 84, 69, 32, 83, 69, 84, 32, 68, 69, 76, 69, 84, 69])))), (.c (.d (.s (bs [32]))))], .asg 0 1]) .ret))
theorem triKeywords : trFn Tryz.prog 98 = some (aciKeywords, [.mv 0 0], 2) := by kernel_rfl
def qiKeywords (r : (List (List UInt8))) : Exit → St → Prop := retQ [.mv 0 0] fun x _ => x = (fun y => (.d (.sl 1 (y.map cStr)))) r

def aciNameOk : AC := (.seq (.ops [.asg 2 (kB false)]) (.seq (.ops [.mv 3 0, .lns 4 3, .bin 5 .geq 4 (kI 1), .mv 6 5, .g 6 true (.mv 7 0), .g 6 true (.lns 8 7), .g 6 true (.bin 9 .leq 8 (kI 20)), .pick 10 6 9 (kB false), .asg 2 10]) .ret))
theorem triNameOk : trFn Tryz.prog 92 = some (aciNameOk, [.mv 0 2], 11) := by kernel_rfl
def qiNameOk (r : Bool) : Exit → St → Prop := retQ [.mv 0 2] fun x _ => x = (fun y => (vB y)) r
def aciParser_mustSign : AC := (.seq (.ops [.mv 4 0, .mv 5 1, .call (some 6) 69 [4, 5], .not 7 6]) (.cond 7 (.ops [.mv 8 0, .nck 9 8, .fa 10 2 9, .st 1 10 (kB true)]) .skip))
theorem triParser_mustSign : trFn Tryz.prog 65 = some (aciParser_mustSign, [], 11) := by kernel_rfl
def qiParser_mustSign (r : GParser) : Exit → St → Prop := retQ [] fun x b => x = (fun (y : GParser) => (.tup [])) r ∧ bxHas ((fun (y : GParser) => [(1000000, bGParser y)]) r) b
def aciParser_takeSign_J0 : AC := (.seq (.ops [.mv 17 5, .asg 4 17]) .ret)
def aciParser_takeSign : AC := (.seq (.ops [.asg 4 (kB false)]) (.seq (.ops [.mv 6 0, .mv 7 1, .call (some 8) 76 [6, 7], .asg 5 8]) (.seq (.seq (.ops [.mv 9 5]) (.cond 9 (.ops [.mv 10 0, .nck 11 10, .fa 12 1 11, .ld 13 1 false 12, .bin 14 .add 13 (kI 1), .nck 15 10, .fa 16 1 15, .st 1 16 14]) .skip)) aciParser_takeSign_J0)))
theorem triParser_takeSign : trFn Tryz.prog 69 = some (aciParser_takeSign, [.mv 0 4], 18) := by kernel_rfl
def qiParser_takeSign (r : Bool × GParser) : Exit → St → Prop := retQ [.mv 0 4] fun x b => x = (fun (y : Bool × GParser) => (vB y.1)) r ∧ bxHas ((fun (y : Bool × GParser) => [(1000000, bGParser y.2)]) r) b
def stiParser_takeSign_J0 (y1 : Bool) (p0 : GParser) (b1000000_1 : Int) : St := ⟨[(5, (vB y1))], [(1000000, bGParser (GParser.mk p0.list b1000000_1 p0.failed))]⟩
abbrev moiParser_takeSign_J0 (y1 : Bool) (p0 : GParser) (b1000000_1 : Int) (r : Bool × GParser) : Prop := avc Tryz.prog aciParser_takeSign_J0 (qiParser_takeSign r) (stiParser_takeSign_J0 y1 p0 b1000000_1)
def aciParser_isSign : AC := (.seq (.ops [.asg 4 (kB false)]) (.seq (.ops [.mv 5 0, .mv 6 1, .call (some 7) 50 [5, (kI 0), (kI 5), 6], .asg 4 7]) .ret))
theorem triParser_isSign : trFn Tryz.prog 76 = some (aciParser_isSign, [.mv 0 4], 8) := by kernel_rfl
def qiParser_isSign (p0 : GParser) (r : Bool) : Exit → St → Prop := retQ [.mv 0 4] fun x b => x = (fun (y : Bool) => (vB y)) r ∧ bxHas ((fun (y : Bool) => [(1000000, bGParser p0)]) r) b
def aciLit : AC := (.seq (.ops [.box 1 33 0, .alc 2 [(.d (.i .i64 0)), (.d (.i .i64 0)), (.d (.b false)), (.d (.i .i64 0)), (.d (.i .i64 0)), (.d (.s (bs []))), (.d (.s (bs []))), (.d (.s (bs []))), (.nil 10), (.nil 6)]]) (.seq (.ops [.ld 3 3 true 1, .bld 4 [(.d (.i .i64 0)), (.d (.i .i64 0)), (.d (.b false)), (.d (.i .i64 0)), (.d (.i .i64 0)), (.d (.s (bs []))), (.d (.s (bs []))), (.d (.s (bs []))), (.nil 10), (.nil 6)] [(0, 1, (kI 1)), (3, 3, 3)], .st 10 2 4]) .ret))
theorem triLit : trFn Tryz.prog 86 = some (aciLit, [.ld 0 10 true 2], 5) := by kernel_rfl
def qiLit (r : GExpr) : Exit → St → Prop := retQ [.ld 0 10 true 2] fun x _ => x = (fun y => (vGExpr y)) r
def aciParser_query_L0 : AC := (.loop (.seq (.seq (.ops [.mv 13 0, .call (some 14) 69 [13, (.c (.d (.s (bs [44]))))]]) (.cond 14 .skip (.exit 0))) (.block 1 (.dops [[], [0], [], [2], [3], [1, 4, 3], [0, 1, 2, 3, 4, 5], [6, 5, 5, 0, 1, 2, 3, 4, 5]] [.fa 15 1 3, .ld 16 1 false 15, .mv 17 0, .call (some 18) 70 [17], .bsl 19 80 13 [18], .app 20 80 13 176 16 19, .fa 21 1 3, .st 1 21 20]))))
def aciParser_query_L1 : AC := (.loop (.seq (.seq (.ops [.mv 38 0, .call (some 39) 69 [38, (.c (.d (.s (bs [44]))))]]) (.cond 39 .skip (.exit 2))) (.block 3 (.dops [[], [0], [], [2], [3], [1, 4, 3], [0, 1, 2, 3, 4, 5], [6, 5, 5, 0, 1, 2, 3, 4, 5]] [.fa 40 4 3, .ld 41 1 false 40, .mv 42 0, .call (some 43) 73 [42], .bsl 44 87 11 [43], .app 45 87 11 144 41 44, .fa 46 4 3, .st 1 46 45]))))
def aciParser_query_J3 : AC := (.seq (.ops [.ld 52 6 true 3, .st 6 2 52]) .ret)
def aciParser_query_J2 : AC := (.seq (.seq (.ops [.mv 47 0, .call (some 48) 52 [47, (.c (.d (.s (bs [76, 73, 77, 73, 84]))))]]) (.cond 48 (.ops [.mv 49 0, .call (some 50) 74 [49], .fa 51 5 3, .st 1 51 50]) .skip)) aciParser_query_J3)
def cciParser_query_0 : AC := (.seq (.ops [.mv 22 0, .call (some 23) 62 [22, (.c (.d (.s (bs [70, 82, 79, 77]))))]]) (.seq (.ops [.mv 24 0, .call (some 25) 71 [24], .fa 26 2 3, .st 1 26 25]) (.seq (.ops [.mv 27 0, .call (some 28) 72 [27], .fa 29 3 3, .st 1 29 28]) (.seq (.seq (.ops [.mv 30 0, .call (some 31) 52 [30, (.c (.d (.s (bs [79, 82, 68, 69, 82]))))]]) (.cond 31 (.seq (.ops [.mv 32 0, .call (some 33) 62 [32, (.c (.d (.s (bs [66, 89]))))]]) (.seq (.ops [.mv 34 0, .call (some 35) 73 [34], .bsl 36 87 11 [35], .fa 37 4 3, .st 1 37 36]) (.block 2 aciParser_query_L1))) .skip)) aciParser_query_J2))))
def aciParser_query : AC := (.seq (.ops [.alc 2 [(.d (.b false)), (.nil 13), (.nil 3), (.nil 10), (.nil 11), (.d (.i .i64 0))]]) (.seq (.ops [.mv 4 0, .call (some 5) 62 [4, (.c (.d (.s (bs [83, 69, 76, 69, 67, 84]))))]]) (.seq (.ops [.mv 6 0, .call (some 7) 52 [6, (.c (.d (.s (bs [68, 73, 83, 84, 73, 78, 67, 84]))))], .bld 8 [(.d (.b false)), (.nil 13), (.nil 3), (.nil 10), (.nil 11), (.d (.i .i64 0))] [(0, 1, 7), (5, 1, (kI (-1)))], .alc 3 [(.d (.b false)), (.nil 13), (.nil 3), (.nil 10), (.nil 11), (.d (.i .i64 0))], .st 6 3 8]) (.seq (.ops [.mv 9 0, .call (some 10) 70 [9], .bsl 11 80 13 [10], .fa 12 1 3, .st 1 12 11]) (.seq (.block 0 aciParser_query_L0) cciParser_query_0)))))
theorem triParser_query : trFn Tryz.prog 66 = some (aciParser_query, [.ld 0 6 true 2], 53) := by kernel_rfl
def qiParser_query (r : GQuery × GParser) : Exit → St → Prop := retQ [.ld 0 6 true 2] fun x b => x = (fun (y : GQuery × GParser) => (vGQuery y.1)) r ∧ bxHas ((fun (y : GQuery × GParser) => [(1000000, bGParser y.2)]) r) b
def qiParser_query_0 (r : GQuery × GParser) : Exit → St → Prop := (thenK (wkK (avc Tryz.prog cciParser_query_0 (qiParser_query r))) (qiParser_query r))
def qiParser_query_1 (r : GQuery × GParser) : Exit → St → Prop := (blockK 0 (qiParser_query_0 r))
def qiParser_query_2 (r : GQuery × GParser) : Exit → St → Prop := (thenK (wkK (avc Tryz.prog aciParser_query_J2 (qiParser_query r))) (qiParser_query r))
def qiParser_query_3 (r : GQuery × GParser) : Exit → St → Prop := (blockK 2 (qiParser_query_2 r))
def stiParser_query_L0 (y2 : Bool × GParser) (b3_1 : (List GItem)) (b1000000_0 : (List GToken)) (b1000000_1 : Int) (b1000000_2 : Bool) : St := ⟨[(0, (.ptr 1000000 0)), (2, (.ptr 2 0)), (3, (.ptr 3 0))], [(2, [(vB false), (.nil 13), (.nil 3), (.nil 10), (.nil 11), (vI 0)]), (3, [(vB y2.1), (.osl 11 80 13 (b3_1.map cGItem)), (.nil 3), (.nil 10), (.nil 11), (vI (-1))]), (1000000, bGParser (GParser.mk b1000000_0 b1000000_1 b1000000_2))]⟩
abbrev moiParser_query_L0 (y2 : Bool × GParser) (b3_1 : (List GItem)) (b1000000_0 : (List GToken)) (b1000000_1 : Int) (b1000000_2 : Bool) (r : GQuery × GParser) : Prop := avc Tryz.prog aciParser_query_L0 (qiParser_query_1 r) (stiParser_query_L0 y2 b3_1 b1000000_0 b1000000_1 b1000000_2)
def stiParser_query_L1 (y2 : Bool × GParser) (b3_1 : (List GItem)) (y8 : (List GSource) × GParser) (y9 : (List GExpr) × GParser) (b3_4 : (List GSortKey)) (b1000000_0_13 : (List GToken)) (kb1000000_1_14 : (Int × Bool)) : St := ⟨[(0, (.ptr 1000000 0)), (2, (.ptr 2 0)), (3, (.ptr 3 0))], [(2, [(vB false), (.nil 13), (.nil 3), (.nil 10), (.nil 11), (vI 0)]), (3, [(vB y2.1), (.osl 11 80 13 (b3_1.map cGItem)), (.osl 25 83 3 (y8.1.map cGSource)), (.osl 28 37 10 (y9.1.map cGExpr)), (.osl 36 87 11 (b3_4.map cGSortKey)), (vI (-1))]), (1000000, bGParser (GParser.mk b1000000_0_13 kb1000000_1_14.1 kb1000000_1_14.2))]⟩
abbrev moiParser_query_L1 (y2 : Bool × GParser) (b3_1 : (List GItem)) (y8 : (List GSource) × GParser) (y9 : (List GExpr) × GParser) (b3_4 : (List GSortKey)) (b1000000_0_13 : (List GToken)) (kb1000000_1_14 : (Int × Bool)) (r : GQuery × GParser) : Prop := avc Tryz.prog aciParser_query_L1 (qiParser_query_3 r) (stiParser_query_L1 y2 b3_1 y8 y9 b3_4 b1000000_0_13 kb1000000_1_14)
def stiParser_query_J2 (y2 : Bool × GParser) (b3_1 : (List GItem)) (y8 : (List GSource) × GParser) (y9 : (List GExpr) × GParser) (b3_4_16 : (List GSortKey)) (b1000000_0_17 : (List GToken)) (b1000000_1_18 : Int) (b1000000_2_19 : Bool) : St := ⟨[(0, (.ptr 1000000 0)), (2, (.ptr 2 0)), (3, (.ptr 3 0))], [(2, [(vB false), (.nil 13), (.nil 3), (.nil 10), (.nil 11), (vI 0)]), (3, [(vB y2.1), (.osl 11 80 13 (b3_1.map cGItem)), (.osl 25 83 3 (y8.1.map cGSource)), (.osl 28 37 10 (y9.1.map cGExpr)), (.osl 36 87 11 (b3_4_16.map cGSortKey)), (vI (-1))]), (1000000, bGParser (GParser.mk b1000000_0_17 b1000000_1_18 b1000000_2_19))]⟩
abbrev moiParser_query_J2 (y2 : Bool × GParser) (b3_1 : (List GItem)) (y8 : (List GSource) × GParser) (y9 : (List GExpr) × GParser) (b3_4_16 : (List GSortKey)) (b1000000_0_17 : (List GToken)) (b1000000_1_18 : Int) (b1000000_2_19 : Bool) (r : GQuery × GParser) : Prop := avc Tryz.prog aciParser_query_J2 (qiParser_query r) (stiParser_query_J2 y2 b3_1 y8 y9 b3_4_16 b1000000_0_17 b1000000_1_18 b1000000_2_19)
def stiParser_query_J3 (y2 : Bool × GParser) (b3_1 : (List GItem)) (y8 : (List GSource) × GParser) (y9 : (List GExpr) × GParser) (b3_4_16 : (List GSortKey)) (b3_5 : Int) (b1000000_0_25 : (List GToken)) (b1000000_1_26 : Int) (b1000000_2_27 : Bool) : St := ⟨[(2, (.ptr 2 0)), (3, (.ptr 3 0))], [(2, [(vB false), (.nil 13), (.nil 3), (.nil 10), (.nil 11), (vI 0)]), (3, [(vB y2.1), (.osl 11 80 13 (b3_1.map cGItem)), (.osl 25 83 3 (y8.1.map cGSource)), (.osl 28 37 10 (y9.1.map cGExpr)), (.osl 36 87 11 (b3_4_16.map cGSortKey)), (vI b3_5)]), (1000000, bGParser (GParser.mk b1000000_0_25 b1000000_1_26 b1000000_2_27))]⟩
abbrev moiParser_query_J3 (y2 : Bool × GParser) (b3_1 : (List GItem)) (y8 : (List GSource) × GParser) (y9 : (List GExpr) × GParser) (b3_4_16 : (List GSortKey)) (b3_5 : Int) (b1000000_0_25 : (List GToken)) (b1000000_1_26 : Int) (b1000000_2_27 : Bool) (r : GQuery × GParser) : Prop := avc Tryz.prog aciParser_query_J3 (qiParser_query r) (stiParser_query_J3 y2 b3_1 y8 y9 b3_4_16 b3_5 b1000000_0_25 b1000000_1_26 b1000000_2_27)
def aciParser_where : AC := (.seq (.ops [.asg 2 (.c (.nil 10))]) (.seq (.seq (.ops [.mv 3 0, .call (some 4) 52 [3, (.c (.d (.s (bs [87, 72, 69, 82, 69]))))]]) (.cond 4 (.seq (.ops [.mv 5 0, .call (some 6) 16 [5], .bsl 7 37 10 [6], .asg 2 7]) .ret) .skip)) (.seq (.ops [.asg 2 (.c (.nil 10))]) .ret)))
theorem triParser_where : trFn Tryz.prog 72 = some (aciParser_where, [.mv 0 2], 8) := by kernel_rfl
def qiParser_where (r : (List GExpr) × GParser) : Exit → St → Prop := retQ [.mv 0 2] fun x b => x = (fun (y : (List GExpr) × GParser) => (.osl 2000000 37 10 (y.1.map cGExpr))) r ∧ bxHas ((fun (y : (List GExpr) × GParser) => [(1000000, bGParser y.2)]) r) b
def aciParser_mustNumber : AC := (.seq (.ops [.asg 2 (kI 0)]) (.seq (.ops [.mv 6 0, .call (some 7) 78 [6, (kI 3)], .call (some 8) 81 [7], .mv 5 8, .ext 9 5 0, .ext 10 5 1, .asg 3 9, .asg 4 10]) (.seq (.ops [.mv 11 3, .asg 2 11]) .ret)))
theorem triParser_mustNumber : trFn Tryz.prog 74 = some (aciParser_mustNumber, [.mv 0 2], 12) := by kernel_rfl
def qiParser_mustNumber (r : Int × GParser) : Exit → St → Prop := retQ [.mv 0 2] fun x b => x = (fun (y : Int × GParser) => (vI y.1)) r ∧ bxHas ((fun (y : Int × GParser) => [(1000000, bGParser y.2)]) r) b
def aciParser_mustKind : AC := (.seq (.ops [.asg 4 (.c (.d (.s (bs []))))]) (.seq (.seq (.ops [.mv 5 0, .mv 6 1, .call (some 7) 77 [5, 6], .not 8 7]) (.cond 8 (.seq (.ops [.mv 9 0, .nck 10 9, .fa 11 2 10, .st 1 11 (kB true)]) (.seq (.ops [.asg 4 (.c (.d (.s (bs []))))]) .ret)) .skip)) (.seq (.ops [.mv 12 0, .nck 13 12, .fa 14 1 13, .ld 15 1 false 14, .bin 16 .add 15 (kI 1), .nck 17 12, .fa 18 1 17, .st 1 18 16]) (.seq (.dops [[], [0], [1], [2], [], [4], [5], [6], [7], [3, 8], [9], [10], [11, 0, 1, 2, 3, 4, 5, 6, 7, 8, 9, 10, 11]] [.mv 19 0, .nck 20 19, .fa 21 0 20, .ld 22 1 false 21, .mv 23 0, .nck 24 23, .fa 25 1 24, .ld 26 1 false 25, .bin 27 .sub 26 (kI 1), .ia 28 3 22 27, .fa 29 1 28, .ld 30 1 false 29, .asg 4 30]) .ret))))
theorem triParser_mustKind : trFn Tryz.prog 78 = some (aciParser_mustKind, [.mv 0 4], 31) := by kernel_rfl
def qiParser_mustKind (r : (List UInt8) × GParser) : Exit → St → Prop := retQ [.mv 0 4] fun x b => x = (fun (y : (List UInt8) × GParser) => (vS y.1)) r ∧ bxHas ((fun (y : (List UInt8) × GParser) => [(1000000, bGParser y.2)]) r) b
def aciParser_sources_L0 : AC := (.loop (.block 1 (.block 2 (.seq (.ops [.mv 10 0, .call (some 11) 69 [10, (.c (.d (.s (bs [44]))))], .asg 9 11]) (.cond 9 (.ops [.mv 12 3, .mv 13 0, .call (some 14) 80 [13], .bsl 15 83 3 [14], .app 16 83 3 56 12 15, .asg 3 16]) (.seq (.ops [.mv 18 0, .call (some 19) 52 [18, (.c (.d (.s (bs [74, 79, 73, 78]))))], .asg 17 19]) (.cond 17 (.seq (.ops [.mv 20 0, .call (some 21) 80 [20], .alc 4 [(.d (.s (bs []))), (.d (.s (bs []))), (.nil 10)], .st 3 4 21]) (.seq (.ops [.mv 22 0, .call (some 23) 62 [22, (.c (.d (.s (bs [79, 78]))))]]) (.seq (.ops [.mv 24 0, .call (some 25) 16 [24], .bsl 26 37 10 [25], .fa 27 2 4, .st 1 27 26]) (.ops [.mv 28 3, .ld 29 3 true 4, .bsl 30 83 3 [29], .app 31 83 3 56 28 30, .asg 3 31])))) (.seq (.ops [.mv 8 3, .asg 2 8]) .ret))))))))
def aciParser_sources : AC := (.seq (.ops [.asg 2 (.c (.nil 3))]) (.seq (.ops [.mv 5 0, .call (some 6) 80 [5], .bsl 7 83 3 [6], .asg 3 7]) (.block 0 aciParser_sources_L0)))
theorem triParser_sources : trFn Tryz.prog 71 = some (aciParser_sources, [.mv 0 2], 32) := by kernel_rfl
def qiParser_sources (r : (List GSource) × GParser) : Exit → St → Prop := retQ [.mv 0 2] fun x b => x = (fun (y : (List GSource) × GParser) => (.osl 2000000 83 3 (y.1.map cGSource))) r ∧ bxHas ((fun (y : (List GSource) × GParser) => [(1000000, bGParser y.2)]) r) b
def qiParser_sources_0 (r : (List GSource) × GParser) : Exit → St → Prop := (blockK 0 (qiParser_sources r))
def stiParser_sources_L0 (x3 : (List GSource)) (b1000000_0 : (List GToken)) (b1000000_1 : Int) (b1000000_2 : Bool) : St := ⟨[(0, (.ptr 1000000 0)), (3, (.osl 3 83 3 (x3.map cGSource)))], [(1000000, bGParser (GParser.mk b1000000_0 b1000000_1 b1000000_2))]⟩
abbrev moiParser_sources_L0 (x3 : (List GSource)) (b1000000_0 : (List GToken)) (b1000000_1 : Int) (b1000000_2 : Bool) (r : (List GSource) × GParser) : Prop := avc Tryz.prog aciParser_sources_L0 (qiParser_sources_0 r) (stiParser_sources_L0 x3 b1000000_0 b1000000_1 b1000000_2)
def aciParser_source : AC := (.seq (.ops [.alc 2 [(.d (.s (bs []))), (.d (.s (bs []))), (.nil 10)]]) (.seq (.ops [.mv 4 0, .call (some 5) 78 [4, (kI 2)], .asg 3 5]) (.seq (.ops [.mv 6 3, .mv 7 0, .call (some 8) 79 [7], .bld 9 [(.d (.s (bs []))), (.d (.s (bs []))), (.nil 10)] [(0, 1, 6), (1, 1, 8)], .st 3 2 9]) .ret)))
theorem triParser_source : trFn Tryz.prog 80 = some (aciParser_source, [.ld 0 3 true 2], 10) := by kernel_rfl
def qiParser_source (r : GSource × GParser) : Exit → St → Prop := retQ [.ld 0 3 true 2] fun x b => x = (fun (y : GSource × GParser) => (vGSource y.1)) r ∧ bxHas ((fun (y : GSource × GParser) => [(1000000, bGParser y.2)]) r) b
def aciParser_as : AC := (.seq (.ops [.asg 2 (.c (.d (.s (bs []))))]) (.seq (.seq (.ops [.mv 3 0, .call (some 4) 52 [3, (.c (.d (.s (bs [65, 83]))))]]) (.cond 4 (.seq (.ops [.mv 5 0, .call (some 6) 78 [5, (kI 2)], .asg 2 6]) .ret) .skip)) (.seq (.ops [.asg 2 (.c (.d (.s (bs []))))]) .ret)))
theorem triParser_as : trFn Tryz.prog 79 = some (aciParser_as, [.mv 0 2], 7) := by kernel_rfl
def qiParser_as (r : (List UInt8) × GParser) : Exit → St → Prop := retQ [.mv 0 2] fun x b => x = (fun (y : (List UInt8) × GParser) => (vS y.1)) r ∧ bxHas ((fun (y : (List UInt8) × GParser) => [(1000000, bGParser y.2)]) r) b
def aciParser_key_J0 : AC := (.seq (.ops [.ld 13 11 true 3, .st 11 2 13]) .ret)
def aciParser_key : AC := (.seq (.ops [.alc 2 [(.d (.i .i64 0)), (.d (.i .i64 0)), (.d (.b false)), (.d (.i .i64 0)), (.d (.i .i64 0)), (.d (.s (bs []))), (.d (.s (bs []))), (.d (.s (bs []))), (.nil 10), (.nil 6), (.d (.b false))]]) (.seq (.ops [.mv 4 0, .call (some 5) 16 [4], .bld 6 [(.d (.i .i64 0)), (.d (.i .i64 0)), (.d (.b false)), (.d (.i .i64 0)), (.d (.i .i64 0)), (.d (.s (bs []))), (.d (.s (bs []))), (.d (.s (bs []))), (.nil 10), (.nil 6), (.d (.b false))] [(0, 10, 5)], .alc 3 [(.d (.i .i64 0)), (.d (.i .i64 0)), (.d (.b false)), (.d (.i .i64 0)), (.d (.i .i64 0)), (.d (.s (bs []))), (.d (.s (bs []))), (.d (.s (bs []))), (.nil 10), (.nil 6), (.d (.b false))], .st 11 3 6]) (.seq (.seq (.ops [.mv 7 0, .call (some 8) 52 [7, (.c (.d (.s (bs [65, 83, 67]))))], .not 9 8]) (.cond 9 (.ops [.mv 10 0, .call (some 11) 52 [10, (.c (.d (.s (bs [68, 69, 83, 67]))))], .fa 12 10 3, .st 1 12 11]) .skip)) aciParser_key_J0)))
theorem triParser_key : trFn Tryz.prog 73 = some (aciParser_key, [.ld 0 11 true 2], 14) := by kernel_rfl
def qiParser_key (r : GSortKey × GParser) : Exit → St → Prop := retQ [.ld 0 11 true 2] fun x b => x = (fun (y : GSortKey × GParser) => (vGSortKey y.1)) r ∧ bxHas ((fun (y : GSortKey × GParser) => [(1000000, bGParser y.2)]) r) b
def stiParser_key_J0 (y1 : GExpr × GParser) (b3_10 : Bool) (b1000000_0 : (List GToken)) (b1000000_1 : Int) (b1000000_2 : Bool) : St := ⟨[(2, (.ptr 2 0)), (3, (.ptr 3 0))], [(2, [(vI 0), (vI 0), (vB false), (vI 0), (vI 0), (vS []), (vS []), (vS []), (.nil 10), (.nil 6), (vB false)]), (3, bGSortKey (GSortKey.mk y1.1 b3_10)), (1000000, bGParser (GParser.mk b1000000_0 b1000000_1 b1000000_2))]⟩
abbrev moiParser_key_J0 (y1 : GExpr × GParser) (b3_10 : Bool) (b1000000_0 : (List GToken)) (b1000000_1 : Int) (b1000000_2 : Bool) (r : GSortKey × GParser) : Prop := avc Tryz.prog aciParser_key_J0 (qiParser_key r) (stiParser_key_J0 y1 b3_10 b1000000_0 b1000000_1 b1000000_2)
def aciParser_item : AC := (.seq (.ops [.alc 2 [(.d (.b false)), (.d (.s (bs []))), (.d (.i .i64 0)), (.d (.i .i64 0)), (.d (.b false)), (.d (.i .i64 0)), (.d (.i .i64 0)), (.d (.s (bs []))), (.d (.s (bs []))), (.d (.s (bs []))), (.nil 10), (.nil 6), (.d (.s (bs [])))]]) (.seq (.block 0 (.seq (.ops [.mv 6 0, .call (some 7) 69 [6, (.c (.d (.s (bs [42]))))], .asg 5 7]) (.cond 5 (.seq (.ops [.bld 8 [(.d (.b false)), (.d (.s (bs []))), (.d (.i .i64 0)), (.d (.i .i64 0)), (.d (.b false)), (.d (.i .i64 0)), (.d (.i .i64 0)), (.d (.s (bs []))), (.d (.s (bs []))), (.d (.s (bs []))), (.nil 10), (.nil 6), (.d (.s (bs [])))] [(0, 1, (kB true))], .st 13 2 8]) .ret) (.seq (.ops [.mv 10 0, .call (some 11) 77 [10, (kI 2)], .mv 12 11, .g 12 true (.mv 13 0), .g 12 true (.call (some 14) 50 [13, (kI 1), (kI 5), (.c (.d (.s (bs [46]))))]), .pick 15 12 14 (kB false), .mv 16 15, .g 16 true (.mv 17 0), .g 16 true (.call (some 18) 50 [17, (kI 2), (kI 5), (.c (.d (.s (bs [42]))))]), .pick 19 16 18 (kB false), .asg 9 19]) (.cond 9 (.seq (.ops [.mv 20 0, .call (some 21) 78 [20, (kI 2)], .asg 3 21]) (.seq (.ops [.mv 22 0, .nck 23 22, .fa 24 1 23, .ld 25 1 false 24, .bin 26 .add 25 (kI 2), .nck 27 22, .fa 28 1 27, .st 1 28 26]) (.seq (.ops [.mv 29 3, .bld 30 [(.d (.b false)), (.d (.s (bs []))), (.d (.i .i64 0)), (.d (.i .i64 0)), (.d (.b false)), (.d (.i .i64 0)), (.d (.i .i64 0)), (.d (.s (bs []))), (.d (.s (bs []))), (.d (.s (bs []))), (.nil 10), (.nil 6), (.d (.s (bs [])))] [(0, 1, (kB true)), (1, 1, 29)], .st 13 2 30]) .ret))) .skip))))) (.seq (.ops [.mv 31 0, .call (some 32) 16 [31], .alc 4 [(.d (.i .i64 0)), (.d (.i .i64 0)), (.d (.b false)), (.d (.i .i64 0)), (.d (.i .i64 0)), (.d (.s (bs []))), (.d (.s (bs []))), (.d (.s (bs []))), (.nil 10), (.nil 6)], .st 10 4 32]) (.seq (.dops [[], [], [1], [0, 2], [3, 2, 0, 1, 2, 3]] [.ld 33 10 true 4, .mv 34 0, .call (some 35) 79 [34], .bld 36 [(.d (.b false)), (.d (.s (bs []))), (.d (.i .i64 0)), (.d (.i .i64 0)), (.d (.b false)), (.d (.i .i64 0)), (.d (.i .i64 0)), (.d (.s (bs []))), (.d (.s (bs []))), (.d (.s (bs []))), (.nil 10), (.nil 6), (.d (.s (bs [])))] [(2, 10, 33), (12, 1, 35)], .st 13 2 36]) .ret))))
theorem triParser_item : trFn Tryz.prog 70 = some (aciParser_item, [.ld 0 13 true 2], 37) := by kernel_rfl
def qiParser_item (r : GItem × GParser) : Exit → St → Prop := retQ [.ld 0 13 true 2] fun x b => x = (fun (y : GItem × GParser) => (vGItem y.1)) r ∧ bxHas ((fun (y : GItem × GParser) => [(1000000, bGParser y.2)]) r) b
def aciBoolValue_J0 : AC := (.seq (.ops [.ld 7 3 true 3, .st 3 2 7]) .ret)
def aciBoolValue : AC := (.seq (.ops [.alc 2 [(.d (.i .i64 0)), (.d (.i .i64 0)), (.d (.s (bs [])))]]) (.seq (.ops [.bld 4 [(.d (.i .i64 0)), (.d (.i .i64 0)), (.d (.s (bs [])))] [(0, 1, (kI 3))], .alc 3 [(.d (.i .i64 0)), (.d (.i .i64 0)), (.d (.s (bs [])))], .st 3 3 4]) (.seq (.seq (.ops [.mv 5 0]) (.cond 5 (.ops [.fa 6 1 3, .st 1 6 (kI 1)]) .skip)) aciBoolValue_J0)))
theorem triBoolValue : trFn Tryz.prog 89 = some (aciBoolValue, [.ld 0 3 true 2], 8) := by kernel_rfl
def qiBoolValue (r : GValue) : Exit → St → Prop := retQ [.ld 0 3 true 2] fun x _ => x = (fun y => (vGValue y)) r
def stiBoolValue_J0 (b3_1 : Int) : St := ⟨[(2, (.ptr 2 0)), (3, (.ptr 3 0))], [(2, [(vI 0), (vI 0), (vS [])]), (3, bGValue (GValue.mk 3 b3_1 []))]⟩
abbrev moiBoolValue_J0 (b3_1 : Int) (r : GValue) : Prop := avc Tryz.prog aciBoolValue_J0 (qiBoolValue r) (stiBoolValue_J0 b3_1)
def aciTextValue : AC := (.seq (.ops [.alc 2 [(.d (.i .i64 0)), (.d (.i .i64 0)), (.d (.s (bs [])))]]) (.seq (.ops [.mv 3 0, .bld 4 [(.d (.i .i64 0)), (.d (.i .i64 0)), (.d (.s (bs [])))] [(0, 1, (kI 2)), (2, 1, 3)], .st 3 2 4]) .ret))
theorem triTextValue : trFn Tryz.prog 88 = some (aciTextValue, [.ld 0 3 true 2], 5) := by kernel_rfl
def qiTextValue (r : GValue) : Exit → St → Prop := retQ [.ld 0 3 true 2] fun x _ => x = (fun y => (vGValue y)) r
def aciIntValue : AC := (.seq (.ops [.alc 2 [(.d (.i .i64 0)), (.d (.i .i64 0)), (.d (.s (bs [])))]]) (.seq (.ops [.mv 3 0, .bld 4 [(.d (.i .i64 0)), (.d (.i .i64 0)), (.d (.s (bs [])))] [(0, 1, (kI 1)), (1, 1, 3)], .st 3 2 4]) .ret))
theorem triIntValue : trFn Tryz.prog 87 = some (aciIntValue, [.ld 0 3 true 2], 5) := by kernel_rfl
def qiIntValue (r : GValue) : Exit → St → Prop := retQ [.ld 0 3 true 2] fun x _ => x = (fun y => (vGValue y)) r
def aciParser_in_J0 : AC := (.seq (.ops [.mv 27 0, .call (some 28) 65 [27, (.c (.d (.s (bs [41]))))]]) (.seq (.ops [.ld 29 10 true 7, .st 10 6 29]) .ret))
def aciParser_in : AC := (.seq (.ops [.box 4 37 1, .alc 6 [(.d (.i .i64 0)), (.d (.i .i64 0)), (.d (.b false)), (.d (.i .i64 0)), (.d (.i .i64 0)), (.d (.s (bs []))), (.d (.s (bs []))), (.d (.s (bs []))), (.nil 10), (.nil 6)]]) (.seq (.ops [.mv 8 0, .call (some 9) 65 [8, (.c (.d (.s (bs [40]))))]]) (.seq (.ops [.mv 10 2, .ld 11 10 true 4, .bsl 12 37 10 [11], .bld 13 [(.d (.i .i64 0)), (.d (.i .i64 0)), (.d (.b false)), (.d (.i .i64 0)), (.d (.i .i64 0)), (.d (.s (bs []))), (.d (.s (bs []))), (.d (.s (bs []))), (.nil 10), (.nil 6)] [(0, 1, (kI 7)), (2, 1, 10), (8, 1, 12)], .alc 7 [(.d (.i .i64 0)), (.d (.i .i64 0)), (.d (.b false)), (.d (.i .i64 0)), (.d (.i .i64 0)), (.d (.s (bs []))), (.d (.s (bs []))), (.d (.s (bs []))), (.nil 10), (.nil 6)], .st 10 7 13]) (.seq (.seq (.ops [.mv 14 0, .call (some 15) 60 [14, (.c (.d (.s (bs [83, 69, 76, 69, 67, 84]))))]]) (.cond 15 (.ops [.mv 16 0, .call (some 17) 66 [16], .bsl 18 70 6 [17], .fa 19 0 7, .st 1 19 (kI 8), .fa 20 9 7, .st 1 20 18]) (.dops [[], [0], [], [2], [1, 3, 3], [0, 1, 2, 3, 4], [5, 4, 4, 0, 1, 2, 3, 4]] [.fa 21 8 7, .ld 22 1 false 21, .mv 23 0, .call (some 24) 67 [23], .app 25 37 10 136 22 24, .fa 26 8 7, .st 1 26 25]))) aciParser_in_J0))))
theorem triParser_in : trFn Tryz.prog 63 = some (aciParser_in, [.ld 0 10 true 6], 30) := by kernel_rfl
def qiParser_in (r : GExpr × GParser) : Exit → St → Prop := retQ [.ld 0 10 true 6] fun x b => x = (fun (y : GExpr × GParser) => (vGExpr y.1)) r ∧ bxHas ((fun (y : GExpr × GParser) => [(1000000, bGParser y.2)]) r) b
def stiParser_in_J0 (p2 : Bool) (b7_0 : Int) (b7_8 : (List GExpr)) (b7_9 : (List GQuery)) (b1000000_0 : (List GToken)) (b1000000_1 : Int) (b1000000_2 : Bool) : St := ⟨[(0, (.ptr 1000000 0)), (6, (.ptr 6 0)), (7, (.ptr 7 0))], [(6, [(vI 0), (vI 0), (vB false), (vI 0), (vI 0), (vS []), (vS []), (vS []), (.nil 10), (.nil 6)]), (7, [(vI b7_0), (vI 0), (vB p2), (vI 0), (vI 0), (vS []), (vS []), (vS []), (.osl 12 37 10 (b7_8.map cGExpr)), (.osl 18 70 6 (b7_9.map cGQuery))]), (1000000, bGParser (GParser.mk b1000000_0 b1000000_1 b1000000_2))]⟩
abbrev moiParser_in_J0 (p2 : Bool) (b7_0 : Int) (b7_8 : (List GExpr)) (b7_9 : (List GQuery)) (b1000000_0 : (List GToken)) (b1000000_1 : Int) (b1000000_2 : Bool) (r : GExpr × GParser) : Prop := avc Tryz.prog aciParser_in_J0 (qiParser_in r) (stiParser_in_J0 p2 b7_0 b7_8 b7_9 b1000000_0 b1000000_1 b1000000_2)
def aciParser_ors_L0 : AC := (.loop (.seq (.seq (.ops [.mv 7 0, .call (some 8) 69 [7, (.c (.d (.s (bs [44]))))]]) (.cond 8 .skip (.exit 0))) (.block 1 (.ops [.mv 9 3, .mv 10 0, .call (some 11) 16 [10], .bsl 12 37 10 [11], .app 13 37 10 136 9 12, .asg 3 13]))))
def cciParser_ors_0 : AC := (.seq (.ops [.mv 14 3, .asg 2 14]) .ret)
def aciParser_ors : AC := (.seq (.ops [.asg 2 (.c (.nil 10))]) (.seq (.ops [.mv 4 0, .call (some 5) 16 [4], .bsl 6 37 10 [5], .asg 3 6]) (.seq (.block 0 aciParser_ors_L0) cciParser_ors_0)))
theorem triParser_ors : trFn Tryz.prog 67 = some (aciParser_ors, [.mv 0 2], 15) := by kernel_rfl
def qiParser_ors (r : (List GExpr) × GParser) : Exit → St → Prop := retQ [.mv 0 2] fun x b => x = (fun (y : (List GExpr) × GParser) => (.osl 2000000 37 10 (y.1.map cGExpr))) r ∧ bxHas ((fun (y : (List GExpr) × GParser) => [(1000000, bGParser y.2)]) r) b
def qiParser_ors_0 (r : (List GExpr) × GParser) : Exit → St → Prop := (thenK (wkK (avc Tryz.prog cciParser_ors_0 (qiParser_ors r))) (qiParser_ors r))
def qiParser_ors_1 (r : (List GExpr) × GParser) : Exit → St → Prop := (blockK 0 (qiParser_ors_0 r))
def stiParser_ors_L0 (x3 : (List GExpr)) (b1000000_0 : (List GToken)) (b1000000_1 : Int) (b1000000_2 : Bool) : St := ⟨[(0, (.ptr 1000000 0)), (3, (.osl 3 37 10 (x3.map cGExpr)))], [(1000000, bGParser (GParser.mk b1000000_0 b1000000_1 b1000000_2))]⟩
abbrev moiParser_ors_L0 (x3 : (List GExpr)) (b1000000_0 : (List GToken)) (b1000000_1 : Int) (b1000000_2 : Bool) (r : (List GExpr) × GParser) : Prop := avc Tryz.prog aciParser_ors_L0 (qiParser_ors_1 r) (stiParser_ors_L0 x3 b1000000_0 b1000000_1 b1000000_2)
def acwSzTokenS_L0 : AC := (.loop (.seq (.seq (.ops [.mv 12 5, .mv 13 0, .len 14 13, .bin 15 .lss 12 14]) (.cond 15 .skip (.exit 0))) (.seq (.block 1 (.seq (.ops [.mv 18 0, .mv 19 5, .ia 20 3 18 19, .ld 21 3 true 20, .mv 22 1, .call (some 23) 9 [21, 22], .asg 1 23]) (.seq (.ops [.mv 24 1, .bin 25 .lss 24 (kI 0)]) (.cond 25 (.seq (.ops [.asg 4 (kI (-1))]) .ret) .skip)))) (.ops [.mv 16 5, .bin 17 .add 16 (kI 1), .asg 5 17]))))
def ccwSzTokenS_0 : AC := (.seq (.ops [.mv 26 1, .asg 4 26]) .ret)
def acwSzTokenS : AC := (.seq (.ops [.asg 4 (kI 0)]) (.seq (.ops [.mv 6 1, .mv 7 0, .len 8 7, .bin 9 .sub 6 8, .asg 1 9]) (.seq (.seq (.ops [.mv 10 1, .bin 11 .lss 10 (kI 0)]) (.cond 11 (.seq (.ops [.asg 4 (kI (-1))]) .ret) .skip)) (.seq (.seq (.ops [.asg 5 (kI 0)]) (.block 0 acwSzTokenS_L0)) ccwSzTokenS_0))))
theorem trwSzTokenS : trFn Tryz.prog 4 = some (acwSzTokenS, [.mv 0 4], 27) := by kernel_rfl
def qwSzTokenS (r : Int) : Exit → St → Prop := retQ [.mv 0 4] fun x _ => x = (fun y => (vI y)) r
def qwSzTokenS_0 (r : Int) : Exit → St → Prop := (thenK (wkK (avc Tryz.prog ccwSzTokenS_0 (qwSzTokenS r))) (qwSzTokenS r))
def qwSzTokenS_1 (r : Int) : Exit → St → Prop := (blockK 0 (qwSzTokenS_0 r))
def stwSzTokenS_L0 (p0 : (List GToken)) (x1 : Int) (x5 : Int) : St := ⟨[(0, (.d (.sl 3 (p0.map cGToken)))), (1, (vI x1)), (5, (vI x5))], []⟩
abbrev mowSzTokenS_L0 (p0 : (List GToken)) (x1 : Int) (x5 : Int) (r : Int) : Prop := avc Tryz.prog acwSzTokenS_L0 (qwSzTokenS_1 r) (stwSzTokenS_L0 p0 x1 x5)
def acwSzToken : AC := (.seq (.ops [.box 2 31 0, .asg 4 (kI 0)]) (.seq (.ops [.mv 5 1, .fa 6 1 2, .ld 7 1 false 6, .lns 8 7, .bin 9 .sub 5 8, .asg 1 9]) (.seq (.seq (.ops [.mv 10 1, .bin 11 .lss 10 (kI 0)]) (.cond 11 (.seq (.ops [.asg 4 (kI (-1))]) .ret) .skip)) (.seq (.ops [.mv 12 1, .asg 4 12]) .ret))))
theorem trwSzToken : trFn Tryz.prog 9 = some (acwSzToken, [.mv 0 4], 13) := by kernel_rfl
def qwSzToken (r : Int) : Exit → St → Prop := retQ [.mv 0 4] fun x _ => x = (fun y => (vI y)) r
theorem koGToken (x : GToken) (h : ∀ d ∈ cGToken x, OkD d) : okGToken x := ⟨ko_i _ (ko_sub h 0 1), ko_s _ (ko_sub h 1 1), ko_i _ (ko_sub h 2 1)⟩
theorem koGValue (x : GValue) (h : ∀ d ∈ cGValue x, OkD d) : okGValue x := ⟨ko_i _ (ko_sub h 0 1), ko_i _ (ko_sub h 1 1), ko_s _ (ko_sub h 2 1)⟩
mutual
theorem koGExpr : ∀ x : GExpr, (∀ d ∈ cGExpr x, OkD d) → okGExpr x
  | ⟨a0, a1, a2, a3, a4, a5, a6, a7⟩, h0 => by
    rw [cGExpr_eq] at h0
    have h : ∀ d ∈ oGExpr ⟨a0, a1, a2, a3, a4, a5, a6, a7⟩, OkD d := h0
    unfold okGExpr
    exact ⟨ko_i _ (ko_sub h 0 1), ko_i _ (ko_sub h 1 1), trivial, koGValue a3 (ko_sub h 3 3), ko_s _ (ko_sub h 6 1), ko_s _ (ko_sub h 7 1), ⟨by simpa using (ko_len (ko_sub h 8 1)).1, koLGExpr a6 (ko_len (ko_sub h 8 1)).2⟩, ⟨by simpa using (ko_len (ko_sub h 9 1)).1, koLGQuery a7 (ko_len (ko_sub h 9 1)).2⟩⟩
theorem koGItem : ∀ x : GItem, (∀ d ∈ cGItem x, OkD d) → okGItem x
  | ⟨a0, a1, a2, a3⟩, h0 => by
    rw [cGItem_eq] at h0
    have h : ∀ d ∈ oGItem ⟨a0, a1, a2, a3⟩, OkD d := h0
    unfold okGItem
    exact ⟨trivial, ko_s _ (ko_sub h 1 1), koGExpr a2 (by rw [cGExpr_eq]; exact (ko_sub h 2 10)), ko_s _ (ko_sub h 12 1)⟩
theorem koGQuery : ∀ x : GQuery, (∀ d ∈ cGQuery x, OkD d) → okGQuery x
  | ⟨a0, a1, a2, a3, a4, a5⟩, h0 => by
    rw [cGQuery_eq] at h0
    have h : ∀ d ∈ oGQuery ⟨a0, a1, a2, a3, a4, a5⟩, OkD d := h0
    unfold okGQuery
    exact ⟨trivial, ⟨by simpa using (ko_len (ko_sub h 1 1)).1, koLGItem a1 (ko_len (ko_sub h 1 1)).2⟩, ⟨by simpa using (ko_len (ko_sub h 2 1)).1, koLGSource a2 (ko_len (ko_sub h 2 1)).2⟩, ⟨by simpa using (ko_len (ko_sub h 3 1)).1, koLGExpr a3 (ko_len (ko_sub h 3 1)).2⟩, ⟨by simpa using (ko_len (ko_sub h 4 1)).1, koLGSortKey a4 (ko_len (ko_sub h 4 1)).2⟩, ko_i _ (ko_sub h 5 1)⟩
theorem koGSortKey : ∀ x : GSortKey, (∀ d ∈ cGSortKey x, OkD d) → okGSortKey x
  | ⟨a0, a1⟩, h0 => by
    rw [cGSortKey_eq] at h0
    have h : ∀ d ∈ oGSortKey ⟨a0, a1⟩, OkD d := h0
    unfold okGSortKey
    exact ⟨koGExpr a0 (by rw [cGExpr_eq]; exact (ko_sub h 0 10)), trivial⟩
theorem koGSource : ∀ x : GSource, (∀ d ∈ cGSource x, OkD d) → okGSource x
  | ⟨a0, a1, a2⟩, h0 => by
    rw [cGSource_eq] at h0
    have h : ∀ d ∈ oGSource ⟨a0, a1, a2⟩, OkD d := h0
    unfold okGSource
    exact ⟨ko_s _ (ko_sub h 0 1), ko_s _ (ko_sub h 1 1), ⟨by simpa using (ko_len (ko_sub h 2 1)).1, koLGExpr a2 (ko_len (ko_sub h 2 1)).2⟩⟩
theorem koLGExpr : ∀ l : List GExpr, (∀ x ∈ l.map cGExpr, ∀ d ∈ x, OkD d) → okLGExpr l
  | [], _ => by unfold okLGExpr; trivial
  | x :: l, h => by
    unfold okLGExpr
    exact ⟨koGExpr x (h _ (by simp)), koLGExpr l fun y hy => h y (List.mem_cons_of_mem _ hy)⟩
theorem koLGItem : ∀ l : List GItem, (∀ x ∈ l.map cGItem, ∀ d ∈ x, OkD d) → okLGItem l
  | [], _ => by unfold okLGItem; trivial
  | x :: l, h => by
    unfold okLGItem
    exact ⟨koGItem x (h _ (by simp)), koLGItem l fun y hy => h y (List.mem_cons_of_mem _ hy)⟩
theorem koLGQuery : ∀ l : List GQuery, (∀ x ∈ l.map cGQuery, ∀ d ∈ x, OkD d) → okLGQuery l
  | [], _ => by unfold okLGQuery; trivial
  | x :: l, h => by
    unfold okLGQuery
    exact ⟨koGQuery x (h _ (by simp)), koLGQuery l fun y hy => h y (List.mem_cons_of_mem _ hy)⟩
theorem koLGSortKey : ∀ l : List GSortKey, (∀ x ∈ l.map cGSortKey, ∀ d ∈ x, OkD d) → okLGSortKey l
  | [], _ => by unfold okLGSortKey; trivial
  | x :: l, h => by
    unfold okLGSortKey
    exact ⟨koGSortKey x (h _ (by simp)), koLGSortKey l fun y hy => h y (List.mem_cons_of_mem _ hy)⟩
theorem koLGSource : ∀ l : List GSource, (∀ x ∈ l.map cGSource, ∀ d ∈ x, OkD d) → okLGSource l
  | [], _ => by unfold okLGSource; trivial
  | x :: l, h => by
    unfold okLGSource
    exact ⟨koGSource x (h _ (by simp)), koLGSource l fun y hy => h y (List.mem_cons_of_mem _ hy)⟩
end
theorem koGL12In (x : GL12In) (h : ∀ d ∈ cGL12In x, OkD d) : okGL12In x := ⟨ko_l _ (fun y hy => koGToken y hy) (ko_sub h 0 1), ko_i _ (ko_sub h 1 1), trivial⟩
theorem koGParser (x : GParser) (h : ∀ d ∈ cGParser x, OkD d) : okGParser x := ⟨ko_l _ (fun y hy => koGToken y hy) (ko_sub h 0 1), ko_i _ (ko_sub h 1 1), trivial⟩
theorem de3 {l : List D} (h : WtC Tryz.prog 3 l) : ∃ x : Int, l = cI x := (wt_i h (k := .i64) (by kernel_rfl))
theorem de9 {l : List D} (h : WtC Tryz.prog 9 l) : ∃ x : (List UInt8), l = cStr x := (wt_s h (by kernel_rfl))
theorem de31 {l : List D} (h : WtC Tryz.prog 31 l) : ∃ x : GToken, l = cGToken x := by
  obtain ⟨x0, e0⟩ := de3 (wt_fld h 0 (off := 0) (n := 1) (by kernel_rfl))
  obtain ⟨x1, e1⟩ := de9 (wt_fld h 1 (off := 1) (n := 1) (by kernel_rfl))
  obtain ⟨x2, e2⟩ := de3 (wt_fld h 2 (off := 2) (n := 1) (by kernel_rfl))
  exact ⟨⟨x0, x1, x2⟩, (dr1 (m := 1) (by kernel_rfl) e0 (dr1 (m := 2) (by kernel_rfl) e1 (dr1 (m := 3) (by kernel_rfl) e2 (dr0 (wt_len h (n := 3) (by kernel_rfl))))))⟩
theorem de22 {l : List D} (h : WtC Tryz.prog 22 l) : ∃ x : (List GToken), l = (cSl 3 cGToken) x := (wt_sl h (e := 31) (n := 3) (c := cGToken) (by kernel_rfl) (by kernel_rfl) fun x hx => de31 hx)
theorem OK_iParser_end (p0 : GParser) : FOkB Tryz.prog 17 [(.ptr 1000000 0)] [(1000000, bGParser p0)] (fun (y : Int) => (vI y)) (fun (y : Int) => [(1000000, bGParser p0)]) (iParser_end p0) := by
 intro r h
 rw [iParser_end] at h
 refine ao triParser_end (si (oi (sx 1 (ni (xi (si (si (dops_in (dsx 5 (dgq 0 (dgq 1 (dgq 1 (dgq 1 (dgq 0 (dgq 1 (dgq 1 (dgq 1 (dgp_step (p := true) (b := p0.failed) (v' := (vI (ln p0.list))) (by kernel_rfl) rfl rfl (fun hc => vop_len (sz := 3) (l := p0.list) (f := cGToken) (Eq.trans (b := ([(true && (p0.failed == false))] : List Bool).all id) (by kernel_rfl) (all_c hc rfl)) (by kernel_rfl)) (dgq 2 ?_)))))))))))))))))))
 refine dpkO h fun y1 h => (dnil_in (by kernel_rfl) (by kernel_rfl) (xi ?_))
 refine cd h (fun h => ?_) fun h => ?_
 refine si (oi (sx 5 (ni (xi (ri (tr ?_))))))
 injection h with h; subst h
 exact rb
 refine ki (xi (si (oi (sx 1 (ni (xi (ri ?_)))))))
 injection h with h; subst h
 exact rb
theorem OK_iBin (p0 : Int) (p1 : GExpr) (p2 : GExpr) : FOk Tryz.prog 38 [(vI p0), (vGExpr p1), (vGExpr p2)] (fun y => (vGExpr y)) (iBin p0 p1 p2) := by
 intro r h
 rw [iBin] at h
 refine ao triBin (si (oi (sx 3 (ni (xi (si (oi (sx 3 (bsl_step (l := ([p1, p2] : List GExpr)) (f := cGExpr) (g := oGExpr) (by kernel_rfl) cGExpr_eq (by kernel_rfl) (bldv_step (c := [(vI 4), (vI p0), (vB false), (vI 0), (vI 0), (vS []), (vS []), (vS []), (.osl 10 37 10 (([p1, p2] : List GExpr).map cGExpr)), (.nil 6)]) (by kernel_rfl) (by kernel_rfl) rfl (sx 1 (ni (xi ?_)))))))))))))
 refine ret_wk (s' := ⟨[(6, (.ptr 6 0))], [(6, bGExpr (GExpr.mk 4 p0 false (GValue.mk 0 0 []) [] [] ([p1, p2] : List GExpr) ([] : List GQuery)))]⟩) (wr [] (es er_nil) (br_cons (c0 := [(vI 4), (vI p0), (vB false), (vI 0), (vI 0), (vS []), (vS []), (vS []), (.osl 10 37 10 (([p1, p2] : List GExpr).map cGExpr)), (.nil 6)]) (by kernel_rfl) (vrs_cons (vr_same (by kernel_rfl) (by kernel_rfl)) (vrs_cons (vr_same (by kernel_rfl) (by kernel_rfl)) (vrs_cons (vr_same (by kernel_rfl) (by kernel_rfl)) (vrs_cons (vr_same (by kernel_rfl) (by kernel_rfl)) (vrs_cons (vr_same (by kernel_rfl) (by kernel_rfl)) (vrs_cons (vr_same (by kernel_rfl) (by kernel_rfl)) (vrs_cons (vr_same (by kernel_rfl) (by kernel_rfl)) (vrs_cons (vr_same (by kernel_rfl) (by kernel_rfl)) (vrs_cons (vr_weak (by kernel_rfl) (by kernel_rfl)) (vrs_cons (vr_weak (by kernel_rfl) (by kernel_rfl)) (vrs_nil))))))))))) br_nil)) ?_
 injection h with h; subst h
 exact rp
theorem OK_iBoolValue_J0 (b3_1 : Int) (r : GValue) (h : iBoolValue_J0 b3_1 = some r) : moiBoolValue_J0 b3_1 r := by
 rw [iBoolValue_J0] at h
 delta moiBoolValue_J0 aciBoolValue_J0
 refine si (oi (sx 2 (ni (xi (ri ?_)))))
 injection h with h; subst h
 exact rp
theorem OK_iBoolValue (p0 : Bool) : FOk Tryz.prog 89 [(vB p0)] (fun y => (vGValue y)) (iBoolValue p0) := by
 intro r h
 rw [iBoolValue] at h
 refine ao triBoolValue (si (oi (sx 1 (ni (xi (si (oi (sx 3 (ni (xi (si (si (oi (sx 1 (ni (xi ?_))))))))))))))))
 refine cd h (fun h => ?_) fun h => ?_
 exact oi (sx 2 (ni (nxs (OK_iBoolValue_J0 _ _ h) (wr [] (es (es er_nil)) (bs_ (bs_ br_nil))))))
 exact ki (nxs (OK_iBoolValue_J0 _ _ h) (wr [] (es (es er_nil)) (bs_ (bs_ br_nil))))
theorem OK_iIntValue (p0 : Int) : FOk Tryz.prog 87 [(vI p0)] (fun y => (vGValue y)) (iIntValue p0) := by
 intro r h
 rw [iIntValue] at h
 refine ao triIntValue (si (oi (sx 1 (ni (xi (si (oi (sx 3 (ni (xi (ri ?_)))))))))))
 injection h with h; subst h
 exact rp
theorem OK_iLit (p0 : GValue) : FOk Tryz.prog 86 [(vGValue p0)] (fun y => (vGExpr y)) (iLit p0) := by
 intro r h
 rw [iLit] at h
 refine ao triLit (si (oi (sx 2 (ni (xi (si (oi (sx 1 (bldv_step (c := [(vI 1), (vI 0), (vB false), (vI p0.kind), (vI p0.num), (vS p0.text), (vS []), (vS []), (.nil 10), (.nil 6)]) (by kernel_rfl) (by kernel_rfl) rfl (sx 1 (ni (xi ?_))))))))))))
 refine ret_wk (s' := ⟨[(2, (.ptr 2 0))], [(2, bGExpr (GExpr.mk 1 0 false p0 [] [] ([] : List GExpr) ([] : List GQuery)))]⟩) (wr [] (es er_nil) (br_cons (c0 := [(vI 1), (vI 0), (vB false), (vI p0.kind), (vI p0.num), (vS p0.text), (vS []), (vS []), (.nil 10), (.nil 6)]) (by kernel_rfl) (vrs_cons (vr_same (by kernel_rfl) (by kernel_rfl)) (vrs_cons (vr_same (by kernel_rfl) (by kernel_rfl)) (vrs_cons (vr_same (by kernel_rfl) (by kernel_rfl)) (vrs_cons (vr_same (by kernel_rfl) (by kernel_rfl)) (vrs_cons (vr_same (by kernel_rfl) (by kernel_rfl)) (vrs_cons (vr_same (by kernel_rfl) (by kernel_rfl)) (vrs_cons (vr_same (by kernel_rfl) (by kernel_rfl)) (vrs_cons (vr_same (by kernel_rfl) (by kernel_rfl)) (vrs_cons (vr_weak (by kernel_rfl) (by kernel_rfl)) (vrs_cons (vr_weak (by kernel_rfl) (by kernel_rfl)) (vrs_nil))))))))))) br_nil)) ?_
 injection h with h; subst h
 exact rp
theorem OK_iFold_J2 (x3 : (List Int)) (r : (List UInt8)) (h : iFold_J2 x3 = some r) : moiFold_J2 x3 r := by
 rw [iFold_J2] at h
 delta moiFold_J2 aciFold_J2
 refine si (oi (sx 1 (vs (fun (y : (List UInt8)) => (vS y)) h (fun y hy => vop_cbs (l := x3) hy (by kernel_rfl) (by kernel_rfl)) fun y3 h => (sx 1 (ni (xi (ri ?_)))))))
 injection h with h; subst h
 exact rp
theorem OKs_iFold_J1 (p0 : (List UInt8)) : (∀ (x10 : Int) (b60050000_0 : (List Int)) (r : (List UInt8)), iFold_J1 p0 x10 b60050000_0 = some r → moiFold_J1 p0 x10 b60050000_0 r) ∧ (∀ (x10 : Int) (b60015000_0 : (List Int)) (r : (List UInt8)), iFold_L0 p0 x10 b60015000_0 = some r → moiFold_L0 p0 x10 b60015000_0 r) := by
 refine iFold_J1.mutual_partial_correctness p0 (fun x10 b60050000_0 r => moiFold_J1 p0 x10 b60050000_0 r) (fun x10 b60015000_0 r => moiFold_L0 p0 x10 b60015000_0 r) ?_ ?_
 · intro F_iFold_L0 OK_iFold_L0 x10 b60050000_0 r h
   delta moiFold_J1 aciFold_J1
   exact oi (sx 2 (ni (lbs (OK_iFold_L0 _ _ _ h) (tw [.rn [(60050000, 60015000)]] (wr [] (es (es (es (es er_nil)))) (bs_ br_nil))))))
 · intro F_iFold_J1 OK_iFold_J1 x10 b60015000_0 r h
   delta moiFold_L0 aciFold_L0
   refine loop_unroll (si (oi (sx 1 (ni (xi (si ?_))))))
   refine cd h (fun h => ?_) fun h => ?_
   refine ki (xi (si (bi (si (oi (sx 1 (iat_step (n := 60015000) (k := .i64) (i := x10) (l := b60015000_0) (f := cU8) (g := cU8) [] h (by kernel_rfl) (by kernel_rfl) (by kernel_rfl) (fun _ => rfl) (by kernel_rfl) (fun _ => rfl) fun y1 hiy1 h => ?_)))))))
   refine ps (.d (.i .u8 y1)) (vop_ldT (n := 60015000) (sz := 1) (i := (x10).toNat) (off := 0) (l := b60015000_0.map cU8) (c := [(.d (.i .u8 y1))]) (by kernel_rfl) (by kernel_rfl) (by kernel_rfl)) (sx 2 (ni (xi (si (oi (sx 3 (gq 0 (gq 1 (pkA h fun y2 h => (ni (xi ?_)))))))))))
   refine cd h (fun h => ?_) fun h => ?_
   refine oi (sx 5 (iao_step (n := 60015000) (k := .i64) (i := x10) (l := b60015000_0.map cU8) (c := [(.d (.i .u8 y1))]) (by kernel_rfl) (by kernel_rfl) (idx_get hiy1).1 (by kernel_rfl) (stt_step (n := 60015000) (sz := 1) (i := (x10).toNat) (off := 0) (l := b60015000_0.map cU8) (c := [(.d (.i .u8 y1))]) (by kernel_rfl) (by kernel_rfl) (by kernel_rfl) rfl (ni (bn ?_)))))
   exact nxs (OK_iFold_J1 _ _ _ h) (tw [.clo 60015000, .rn [(60015000, 60050000)]] (wr [] (es (es (es (es er_nil)))) (bt_ (R := (b60015000_0.set (x10).toNat (IntKind.wrap .u8 ((IntKind.wrap .u8 (y1 - 97)) + 65))).map cU8) (set_map (l := b60015000_0) (k := (x10).toNat) (x := (IntKind.wrap .u8 ((IntKind.wrap .u8 (y1 - 97)) + 65))) (fun _ => rfl)) br_nil)))
   exact ki (bn (nxs (OK_iFold_J1 _ _ _ h) (tw [.clo 60015000, .rn [(60015000, 60050000)]] (wr [] (es (es (es (es er_nil)))) (bt_ (R := (b60015000_0.set (x10).toNat y1).map cU8) (set_map (l := b60015000_0) (k := (x10).toNat) (x := y1) (fun _ => rfl)) br_nil)))))
   exact ei (te (te (bh (nxs (OK_iFold_J2 _ _ h) (tw [.frz [60015000]] (wr [] (es er_nil) br_nil))))))
theorem OK_iFold_J1 (p0 : (List UInt8)) (x10 : Int) (b60050000_0 : (List Int)) (r : (List UInt8)) (h : iFold_J1 p0 x10 b60050000_0 = some r) : moiFold_J1 p0 x10 b60050000_0 r := (OKs_iFold_J1 p0).1 x10 b60050000_0 r h
theorem OK_iFold_L0 (p0 : (List UInt8)) (x10 : Int) (b60015000_0 : (List Int)) (r : (List UInt8)) (h : iFold_L0 p0 x10 b60015000_0 = some r) : moiFold_L0 p0 x10 b60015000_0 r := (OKs_iFold_J1 p0).2 x10 b60015000_0 r h
theorem OK_iFold (p0 : (List UInt8)) : FOk Tryz.prog 91 [(vS p0)] (fun y => (vS y)) (iFold p0) := by
 intro r h
 rw [iFold] at h
 refine ao triFold (si (oi (sx 1 (ni (xi (si (oi (sx 1 (csb_step (b := p0) (by kernel_rfl) (by kernel_rfl) rfl (sx 1 (ni (xi (si (si (oi (sx 1 (ps (vI ((toBytes p0).length : Int)) (vop_lenT (n := 7) (l := (toBytes p0).map cU8) (L := (toBytes p0).length) (by kernel_rfl) (by kernel_rfl) (List.length_map ..)) (sx 1 (ni (xi (bi ?_)))))))))))))))))))))
 exact lgs (OK_iFold_L0 _ _ _ _ h) (tw [.rn [(7, 60015000)]] (wr [] (es (es (es (es er_nil)))) (bs_ br_nil)))
theorem OKs_gSlices_Index_Sstring_string_L0 (p0 : (List (List UInt8))) (p1 : (List UInt8)) : (∀ (x8 : Int) (r : Int), gSlices_Index_Sstring_string_L0 p0 p1 x8 = some r → mogSlices_Index_Sstring_string_L0 p0 p1 x8 r) := by
 refine gSlices_Index_Sstring_string_L0.partial_correctness p0 p1 (fun x8 r => mogSlices_Index_Sstring_string_L0 p0 p1 x8 r) ?_
 · intro F_gSlices_Index_Sstring_string_L0 OK_gSlices_Index_Sstring_string_L0 x8 r h
   delta mogSlices_Index_Sstring_string_L0 acgSlices_Index_Sstring_string_L0
   refine loop_unroll (si (oi (sx 1 (ni (xi (si ?_))))))
   refine cd h (fun h => ?_) fun h => ?_
   refine ki (xi (si (bi (si (oi (sx 2 (ni (xi (si (oi (sx 3 (iq h fun y1 h => (sx 2 (ni (xi ?_)))))))))))))))
   refine cd h (fun h => ?_) fun h => ?_
   refine si (oi (sx 2 (ni (xi (ri (br (tr (tr (br (tr ?_))))))))))
   injection h with h; subst h
   exact rp
   exact ki (bn (xi (oi (sx 2 (ni (lbs (OK_gSlices_Index_Sstring_string_L0 _ _ h) (wr [] (es (es (es (es er_nil)))) br_nil)))))))
   refine ei (te (te (bh (xi (si (oi (sx 1 (ni (xi (ri ?_))))))))))
   injection h with h; subst h
   exact rp
theorem OK_gSlices_Index_Sstring_string_L0 (p0 : (List (List UInt8))) (p1 : (List UInt8)) (x8 : Int) (r : Int) (h : gSlices_Index_Sstring_string_L0 p0 p1 x8 = some r) : mogSlices_Index_Sstring_string_L0 p0 p1 x8 r := (OKs_gSlices_Index_Sstring_string_L0 p0 p1) x8 r h
theorem OK_gSlices_Index_Sstring_string (p0 : (List (List UInt8))) (p1 : (List UInt8)) : FOk Tryz.prog 97 [(.d (.sl 1 (p0.map cStr))), (vS p1)] (fun y => (vI y)) (gSlices_Index_Sstring_string p0 p1) := by
 intro r h
 rw [gSlices_Index_Sstring_string] at h
 exact ao trgSlices_Index_Sstring_string (si (oi (sx 1 (ni (xi (si (si (oi (sx 1 (lq p0 (sx 1 (ni (xi (bi (lgs (OK_gSlices_Index_Sstring_string_L0 _ _ _ _ h) (wr [] (es (es (es (es er_nil)))) br_nil))))))))))))))))
theorem OK_gStrings_Split (p0 : (List UInt8)) (p1 : (List UInt8)) : FOk Tryz.prog 107 [(vS p0), (vS p1)] (fun y => (.d (.sl 1 (y.map cStr)))) (gStrings_Split p0 p1) := by
 intro r h
 rw [gStrings_Split] at h
 exact acalls_split (ρ := sh146_ren) sh146 (by kernel_rfl) (by kernel_rfl) (by kernel_rfl) (.tail _ (.head _)) p0 p1 r h
theorem OK_iKeywords : FOk Tryz.prog 98 [] (fun y => (.d (.sl 1 (y.map cStr)))) (iKeywords) := by
 intro r h
 rw [iKeywords] at h
 refine ao triKeywords (si (oi (sx 1 (ni (xi (si (oi (cs h (OK_gStrings_Split _ _) fun y1 h => (sx 1 (ni (xi (ri ?_))))))))))))
 have h := Option.some.inj h; subst h
 exact rp
theorem OK_iKeyOf (p0 : (List UInt8)) : FOk Tryz.prog 90 [(vS p0)] (fun y => (vI y)) (iKeyOf p0) := by
 intro r h
 rw [iKeyOf] at h
 refine ao triKeyOf (si (oi (sx 1 (ni (xi (si (oi (cs h (OK_iKeywords) fun y1 h => (sx 1 (cs h (OK_iFold _) fun y2 h => (cs h (OK_gSlices_Index_Sstring_string _ _) fun y3 h => (sx 2 (ni (xi (ri ?_)))))))))))))))
 have h := Option.some.inj h; subst h
 exact rp
theorem OK_iNameOk (p0 : (List UInt8)) : FOk Tryz.prog 92 [(vS p0)] (fun y => (vB y)) (iNameOk p0) := by
 intro r h
 rw [iNameOk] at h
 refine ao triNameOk (si (oi (sx 1 (ni (xi (si (oi (sx 4 (gq 0 (gq 1 (gq 1 (pkA h fun y1 h => (sx 1 (ni (xi (ri ?_))))))))))))))))
 injection h with h; subst h
 exact rp
theorem OK_iNumber (p0 : (List UInt8)) : FOk Tryz.prog 81 [(vS p0)] (fun y => (.tup [(vI y.1), (vB y.2)])) (iNumber p0) := by
 intro r h
 rw [iNumber] at h
 exact acalls_number number_walk_81 (.tail _ (.tail _ (.head _))) (.tail _ (.tail _ (.tail _ (.head _)))) (.head _) p0 r h
theorem OK_gSlices_Contains_Sstring_string (p0 : (List (List UInt8))) (p1 : (List UInt8)) : FOk Tryz.prog 99 [(.d (.sl 1 (p0.map cStr))), (vS p1)] (fun y => (vB y)) (gSlices_Contains_Sstring_string p0 p1) := by
 intro r h
 rw [gSlices_Contains_Sstring_string] at h
 refine ao trgSlices_Contains_Sstring_string (si (oi (sx 1 (ni (xi (si (oi (sx 2 (cs h (OK_gSlices_Index_Sstring_string _ _) fun y1 h => (sx 2 (ni (xi (ri ?_)))))))))))))
 injection h with h; subst h
 exact rp
theorem OK_iSigns : FOkB Tryz.prog 100 [] [] (fun (y : (List (List UInt8))) => (.osl 2000000 9 1 (y.map cStr))) (fun (y : (List (List UInt8))) => []) (iSigns) := by
 intro r h
 rw [iSigns] at h
 refine ao triSigns (si (oi (sx 1 (ni (xi (si (oi (bsl_step (l := ([[40], [41], [44], [46], [42], [43], [45], [47], [37], [61], [60, 62], [60], [60, 61], [62], [62, 61], [124, 124]] : List (List UInt8))) (f := cStr) (g := cStr) (by kernel_rfl) (fun _ => rfl) (by kernel_rfl) (sx 1 (ni (xi ?_)))))))))))
 refine ret_wk (s' := ⟨[(0, (.osl 2000000 9 1 (([[40], [41], [44], [46], [42], [43], [45], [47], [37], [61], [60, 62], [60], [60, 61], [62], [62, 61], [124, 124]] : List (List UInt8)).map cStr)))], []⟩) (wr [(2000000, .old 0)] (eo 0 er_nil) br_nil) ?_
 injection h with h; subst h
 exact rb
theorem OK_iSignOk (p0 : (List UInt8)) : FOk Tryz.prog 93 [(vS p0)] (fun y => (vB y)) (iSignOk p0) := by
 intro r h
 rw [iSignOk] at h
 refine ao triSignOk (si (oi (sx 1 (ni (xi (si (oi (cg ⟨[], [], [], [], [], [(2000000, 3)], [], [3], []⟩ h (OK_iSigns) fun y1 h => (sx 1 (cs h (OK_gSlices_Contains_Sstring_string _ _) fun y2 h => (sx 1 (ni (xi (ri ?_))))))))))))))
 injection h with h; subst h
 exact rp
theorem OK_iTokenOk (p0 : GToken) : FOk Tryz.prog 83 [(vGToken p0)] (fun y => (vB y)) (iTokenOk p0) := by
 intro r h
 rw [iTokenOk] at h
 refine ao triTokenOk (si (oi (sx 2 (ni (xi (si (si (oi (sx 2 (ni (xi (bi (si (oi (sx 2 (ni (xi ?_)))))))))))))))))
 refine cd h (fun h => ?_) fun h => ?_
 refine si (dops_in (dsx 2 (dcs h (OK_iKeyOf _) fun y1 h => (dsx 2 (dgq 0 (dgq 1 (dgc 1 h (OK_iFold _) fun y2 h => (dgq 0 (dgq 1 (dgq 2 (dpkA h fun y3 h => (dsx 1 (dnil_in (by kernel_rfl) (by kernel_rfl) (xi (ri (br (tr ?_)))))))))))))))))
 injection h with h; subst h
 exact rp
 refine si (oi (sx 2 (ni (xi ?_))))
 refine cd h (fun h => ?_) fun h => ?_
 refine si (oi (sx 2 (cs h (OK_iNameOk _) fun y4 h => (sx 1 (ni (xi (ri (br (tr ?_)))))))))
 injection h with h; subst h
 exact rp
 refine si (oi (sx 2 (ni (xi ?_))))
 refine cd h (fun h => ?_) fun h => ?_
 refine si (oi (sx 2 (cs h (OK_iNumber _) fun y5 h => (sx 5 (ni (xi (si (oi (sx 2 (ni (xi (ri (br (tr ?_))))))))))))))
 injection h with h; subst h
 exact rp
 refine si (oi (sx 2 (ni (xi ?_))))
 refine cd h (fun h => ?_) fun h => ?_
 refine si (oi (sx 5 (ni (xi (ri (br (tr ?_)))))))
 injection h with h; subst h
 exact rp
 refine si (oi (sx 2 (ni (xi ?_))))
 refine cd h (fun h => ?_) fun h => ?_
 refine si (oi (sx 2 (cs h (OK_iSignOk _) fun y6 h => (sx 1 (ni (xi (ri (br (tr ?_)))))))))
 injection h with h; subst h
 exact rp
 refine ki (bn (xi (si (oi (sx 1 (ni (xi (ri ?_))))))))
 injection h with h; subst h
 exact rp
theorem OK_iParser_isKind (p0 : GParser) (p1 : Int) : FOkB Tryz.prog 77 [(.ptr 1000000 0), (vI p1)] [(1000000, bGParser p0)] (fun (y : Bool) => (vB y)) (fun (y : Bool) => [(1000000, bGParser p0)]) (iParser_isKind p0 p1) := by
 intro r h
 rw [iParser_isKind] at h
 refine ao triParser_isKind (si (oi (sx 1 (ni (xi (si (dops_in (dsx 6 (dgq 0 (dgq 1 (dgq 1 (dgq 1 (dgq 0 (dgq 1 (dgq 1 (dgq 1 (dgp_step (p := true) (b := (!p0.failed)) (v' := (vI (ln p0.list))) (by kernel_rfl) rfl rfl (fun hc => vop_len (sz := 3) (l := p0.list) (f := cGToken) (Eq.trans (b := ([(true && ((!p0.failed) == true))] : List Bool).all id) (by kernel_rfl) (all_c hc rfl)) (by kernel_rfl)) (dgq 2 ?_))))))))))))))))))
 refine dpkA h fun y1 h => (dsx 1 (dgq 0 (dgq 1 (dgq 1 (dgq 1 (dgq 0 (dgq 1 (dgq 1 (dgq 1 ?_)))))))))
 refine dgv_step (p := true) (b := y1) (m := idx p0.list p0.at_) (dflt := default) (v' := fun y => (.rp (cGToken y))) h (by kernel_rfl) rfl rfl (fun y hy hc => vop_ia (l := p0.list) (f := cGToken) (g := cGToken) (k := .i64) hy (fun _ => rfl) (Eq.trans (b := ([(true && (y1 == true)), (true && (y1 == true))] : List Bool).all id) (by kernel_rfl) (all_c hc (all_c hc rfl))) (by kernel_rfl) (by kernel_rfl)) fun y2 h => ?_
 refine dgq 1 (dgq 1 (dgq 0 (dgq 2 (dpkA h fun y3 h => (dsx 1 (dgq 0 (dgq 1 (dgq 1 (dgq 1 (dgq 0 (dgq 1 (dgq 1 (dgq 1 ?_)))))))))))))
 refine dgv_step (p := true) (b := y3) (m := idx p0.list p0.at_) (dflt := default) (v' := fun y => (.rp (cGToken y))) h (by kernel_rfl) rfl rfl (fun y hy hc => vop_ia (l := p0.list) (f := cGToken) (g := cGToken) (k := .i64) hy (fun _ => rfl) (Eq.trans (b := ([(true && (y3 == true)), (true && (y3 == true))] : List Bool).all id) (by kernel_rfl) (all_c hc (all_c hc rfl))) (by kernel_rfl) (by kernel_rfl)) fun y4 h => ?_
 refine dgq 1 (dgc 1 h (OK_iTokenOk _) fun y5 h => (dpkA h fun y6 h => (dsx 1 (dnil_in (by kernel_rfl) (by kernel_rfl) (xi (ri ?_))))))
 injection h with h; subst h
 exact rb
theorem OK_iParser_mustKind (p0 : GParser) (p1 : Int) : FOkB Tryz.prog 78 [(.ptr 1000000 0), (vI p1)] [(1000000, bGParser p0)] (fun (y : (List UInt8) × GParser) => (vS y.1)) (fun (y : (List UInt8) × GParser) => [(1000000, bGParser y.2)]) (iParser_mustKind p0 p1) := by
 intro r h
 rw [iParser_mustKind] at h
 refine ao triParser_mustKind (si (oi (sx 1 (ni (xi (si (si (oi (sx 2 (cg ⟨[(1000000, 1000000)], [], [], [], [], [], [], [], []⟩ h (OK_iParser_isKind _ _) fun y1 h => (sx 1 (ni (xi ?_)))))))))))))
 refine cd h (fun h => ?_) fun h => ?_
 refine si (oi (sx 4 (ni (xi (si (oi (sx 1 (ni (xi (ri (tr ?_)))))))))))
 injection h with h; subst h
 exact rb
 refine ki (xi (si (oi (sx 8 (ni (xi (si (dops_in (dsx 9 (diq h fun y2 h => (dsx 3 (dnil_in (by kernel_rfl) (by kernel_rfl) (xi (ri ?_))))))))))))))
 injection h with h; subst h
 exact rb
theorem OK_iParser_mustNumber (p0 : GParser) : FOkB Tryz.prog 74 [(.ptr 1000000 0)] [(1000000, bGParser p0)] (fun (y : Int × GParser) => (vI y.1)) (fun (y : Int × GParser) => [(1000000, bGParser y.2)]) (iParser_mustNumber p0) := by
 intro r h
 rw [iParser_mustNumber] at h
 refine ao triParser_mustNumber (si (oi (sx 1 (ni (xi (si (oi (sx 1 (cg ⟨[(1000000, 1000000)], [], [], [], [], [], [], [], []⟩ h (OK_iParser_mustKind _ _) fun y1 h => (cs h (OK_iNumber _) fun y2 h => (sx 5 (ni (xi (si (oi (sx 2 (ni (xi (ri ?_)))))))))))))))))))
 injection h with h; subst h
 exact rb
theorem OK_iParser_is (p0 : GParser) (p1 : Int) (p2 : Int) (p3 : (List UInt8)) : FOkB Tryz.prog 50 [(.ptr 1000000 0), (vI p1), (vI p2), (vS p3)] [(1000000, bGParser p0)] (fun (y : Bool) => (vB y)) (fun (y : Bool) => [(1000000, bGParser p0)]) (iParser_is p0 p1 p2 p3) := by
 intro r h
 rw [iParser_is] at h
 refine ao triParser_is (si (oi (sx 1 (ni (xi (si (oi (sx 7 (ni (xi (si (oi (sx 6 (gq 0 (gq 0 (gq 1 (gq 1 (gq 1 (glq 1 p0.list (gq 2 (pkA h fun y1 h => (sx 1 (gq 0 (gq 1 (gq 1 (gq 1 (gq 0 (giq 2 h fun y2 h => (gq 1 (gq 1 (gq 0 (gq 2 (pkA h fun y3 h => (sx 1 (gq 0 (gq 1 (gq 1 (gq 1 (gq 0 (giq 2 h fun y4 h => (gq 1 (gq 1 (gq 0 (gq 2 (pkA h fun y5 h => (sx 1 (ni (xi (ri ?_)))))))))))))))))))))))))))))))))))))))))))))))))
 injection h with h; subst h
 exact rb
theorem OK_iParser_isSign (p0 : GParser) (p1 : (List UInt8)) : FOkB Tryz.prog 76 [(.ptr 1000000 0), (vS p1)] [(1000000, bGParser p0)] (fun (y : Bool) => (vB y)) (fun (y : Bool) => [(1000000, bGParser p0)]) (iParser_isSign p0 p1) := by
 intro r h
 rw [iParser_isSign] at h
 refine ao triParser_isSign (si (oi (sx 1 (ni (xi (si (oi (sx 2 (cg ⟨[(1000000, 1000000)], [], [], [], [], [], [], [], []⟩ h (OK_iParser_is _ _ _ _) fun y1 h => (sx 1 (ni (xi (ri ?_)))))))))))))
 injection h with h; subst h
 exact rb
theorem OK_iParser_takeSign_J0 (y1 : Bool) (p0 : GParser) (b1000000_1 : Int) (r : Bool × GParser) (h : iParser_takeSign_J0 y1 p0 b1000000_1 = some r) : moiParser_takeSign_J0 y1 p0 b1000000_1 r := by
 rw [iParser_takeSign_J0] at h
 delta moiParser_takeSign_J0 aciParser_takeSign_J0
 refine si (oi (sx 2 (ni (xi (ri ?_)))))
 injection h with h; subst h
 exact rb
theorem OK_iParser_takeSign (p0 : GParser) (p1 : (List UInt8)) : FOkB Tryz.prog 69 [(.ptr 1000000 0), (vS p1)] [(1000000, bGParser p0)] (fun (y : Bool × GParser) => (vB y.1)) (fun (y : Bool × GParser) => [(1000000, bGParser y.2)]) (iParser_takeSign p0 p1) := by
 intro r h
 rw [iParser_takeSign] at h
 refine ao triParser_takeSign (si (oi (sx 1 (ni (xi (si (oi (sx 2 (cg ⟨[(1000000, 1000000)], [], [], [], [], [], [], [], []⟩ h (OK_iParser_isSign _ _) fun y1 h => (sx 1 (ni (xi (si (si (oi (sx 1 (ni (xi ?_))))))))))))))))))
 refine cd h (fun h => ?_) fun h => ?_
 exact oi (sx 8 (ni (nxs (OK_iParser_takeSign_J0 _ _ _ _ h) (wr [] (es er_nil) (bs_ br_nil)))))
 exact ki (nxs (OK_iParser_takeSign_J0 _ _ _ _ h) (wr [] (es er_nil) (bs_ br_nil)))
theorem OK_iParser_mustSign (p0 : GParser) (p1 : (List UInt8)) : FOkB Tryz.prog 65 [(.ptr 1000000 0), (vS p1)] [(1000000, bGParser p0)] (fun (y : GParser) => (.tup [])) (fun (y : GParser) => [(1000000, bGParser y)]) (iParser_mustSign p0 p1) := by
 intro r h
 rw [iParser_mustSign] at h
 refine ao triParser_mustSign (si (oi (sx 2 (cg ⟨[(1000000, 1000000)], [], [], [], [], [], [], [], []⟩ h (OK_iParser_takeSign _ _) fun y1 h => (sx 1 (ni (xi ?_)))))))
 refine cd h (fun h => ?_) fun h => ?_
 refine oi (sx 4 (ni (retn_in ?_)))
 injection h with h; subst h
 exact r0b
 refine ki (retn_in ?_)
 injection h with h; subst h
 exact r0b
theorem OK_iParser_isKey (p0 : GParser) (p1 : (List UInt8)) : FOkB Tryz.prog 60 [(.ptr 1000000 0), (vS p1)] [(1000000, bGParser p0)] (fun (y : Bool) => (vB y)) (fun (y : Bool) => [(1000000, bGParser p0)]) (iParser_isKey p0 p1) := by
 intro r h
 rw [iParser_isKey] at h
 refine ao triParser_isKey (si (oi (sx 1 (ni (xi (si (oi (sx 2 (cg ⟨[(1000000, 1000000)], [], [], [], [], [], [], [], []⟩ h (OK_iParser_is _ _ _ _) fun y1 h => (sx 1 (ni (xi (ri ?_)))))))))))))
 injection h with h; subst h
 exact rb
theorem OK_iParser_takeKey_J0 (y1 : Bool) (p0 : GParser) (b1000000_1 : Int) (r : Bool × GParser) (h : iParser_takeKey_J0 y1 p0 b1000000_1 = some r) : moiParser_takeKey_J0 y1 p0 b1000000_1 r := by
 rw [iParser_takeKey_J0] at h
 delta moiParser_takeKey_J0 aciParser_takeKey_J0
 refine si (oi (sx 2 (ni (xi (ri ?_)))))
 injection h with h; subst h
 exact rb
theorem OK_iParser_takeKey (p0 : GParser) (p1 : (List UInt8)) : FOkB Tryz.prog 52 [(.ptr 1000000 0), (vS p1)] [(1000000, bGParser p0)] (fun (y : Bool × GParser) => (vB y.1)) (fun (y : Bool × GParser) => [(1000000, bGParser y.2)]) (iParser_takeKey p0 p1) := by
 intro r h
 rw [iParser_takeKey] at h
 refine ao triParser_takeKey (si (oi (sx 1 (ni (xi (si (oi (sx 2 (cg ⟨[(1000000, 1000000)], [], [], [], [], [], [], [], []⟩ h (OK_iParser_isKey _ _) fun y1 h => (sx 1 (ni (xi (si (si (oi (sx 1 (ni (xi ?_))))))))))))))))))
 refine cd h (fun h => ?_) fun h => ?_
 exact oi (sx 8 (ni (nxs (OK_iParser_takeKey_J0 _ _ _ _ h) (wr [] (es er_nil) (bs_ br_nil)))))
 exact ki (nxs (OK_iParser_takeKey_J0 _ _ _ _ h) (wr [] (es er_nil) (bs_ br_nil)))
theorem OK_iParser_as (p0 : GParser) : FOkB Tryz.prog 79 [(.ptr 1000000 0)] [(1000000, bGParser p0)] (fun (y : (List UInt8) × GParser) => (vS y.1)) (fun (y : (List UInt8) × GParser) => [(1000000, bGParser y.2)]) (iParser_as p0) := by
 intro r h
 rw [iParser_as] at h
 refine ao triParser_as (si (oi (sx 1 (ni (xi (si (si (oi (sx 1 (cg ⟨[(1000000, 1000000)], [], [], [], [], [], [], [], []⟩ h (OK_iParser_takeKey _ _) fun y1 h => (ni (xi ?_))))))))))))
 refine cd h (fun h => ?_) fun h => ?_
 refine si (oi (sx 1 (cg ⟨[(1000000, 1000000)], [], [], [], [], [], [], [], []⟩ h (OK_iParser_mustKind _ _) fun y2 h => (sx 1 (ni (xi (ri (tr ?_))))))))
 injection h with h; subst h
 exact rb
 refine ki (xi (si (oi (sx 1 (ni (xi (ri ?_)))))))
 injection h with h; subst h
 exact rb
theorem OK_iParser_mustKey (p0 : GParser) (p1 : (List UInt8)) : FOkB Tryz.prog 62 [(.ptr 1000000 0), (vS p1)] [(1000000, bGParser p0)] (fun (y : GParser) => (.tup [])) (fun (y : GParser) => [(1000000, bGParser y)]) (iParser_mustKey p0 p1) := by
 intro r h
 rw [iParser_mustKey] at h
 refine ao triParser_mustKey (si (oi (sx 2 (cg ⟨[(1000000, 1000000)], [], [], [], [], [], [], [], []⟩ h (OK_iParser_takeKey _ _) fun y1 h => (sx 1 (ni (xi ?_)))))))
 refine cd h (fun h => ?_) fun h => ?_
 refine oi (sx 4 (ni (retn_in ?_)))
 injection h with h; subst h
 exact r0b
 refine ki (retn_in ?_)
 injection h with h; subst h
 exact r0b
theorem OK_iParser_key_J0 (y1 : GExpr × GParser) (b3_10 : Bool) (b1000000_0 : (List GToken)) (b1000000_1 : Int) (b1000000_2 : Bool) (r : GSortKey × GParser) (h : iParser_key_J0 y1 b3_10 b1000000_0 b1000000_1 b1000000_2 = some r) : moiParser_key_J0 y1 b3_10 b1000000_0 b1000000_1 b1000000_2 r := by
 rw [iParser_key_J0] at h
 delta moiParser_key_J0 aciParser_key_J0
 refine si (oi (sx 2 (ni (xi (ri ?_)))))
 injection h with h; subst h
 exact rb
theorem OK_iParser_query_J3 (y2 : Bool × GParser) (b3_1 : (List GItem)) (y8 : (List GSource) × GParser) (y9 : (List GExpr) × GParser) (b3_4_16 : (List GSortKey)) (b3_5 : Int) (b1000000_0_25 : (List GToken)) (b1000000_1_26 : Int) (b1000000_2_27 : Bool) (r : GQuery × GParser) (h : iParser_query_J3 y2 b3_1 y8 y9 b3_4_16 b3_5 b1000000_0_25 b1000000_1_26 b1000000_2_27 = some r) : moiParser_query_J3 y2 b3_1 y8 y9 b3_4_16 b3_5 b1000000_0_25 b1000000_1_26 b1000000_2_27 r := by
 rw [iParser_query_J3] at h
 delta moiParser_query_J3 aciParser_query_J3
 refine si (oi (sx 2 (ni (xi (ri ?_)))))
 injection h with h; subst h
 exact rb
theorem OK_iParser_query_J2 (y2 : Bool × GParser) (b3_1 : (List GItem)) (y8 : (List GSource) × GParser) (y9 : (List GExpr) × GParser) (b3_4_16 : (List GSortKey)) (b1000000_0_17 : (List GToken)) (b1000000_1_18 : Int) (b1000000_2_19 : Bool) (r : GQuery × GParser) (h : iParser_query_J2 y2 b3_1 y8 y9 b3_4_16 b1000000_0_17 b1000000_1_18 b1000000_2_19 = some r) : moiParser_query_J2 y2 b3_1 y8 y9 b3_4_16 b1000000_0_17 b1000000_1_18 b1000000_2_19 r := by
 rw [iParser_query_J2] at h
 delta moiParser_query_J2 aciParser_query_J2
 refine si (si (oi (sx 1 (cg ⟨[(1000000, 1000000)], [], [], [], [], [], [], [], []⟩ h (OK_iParser_takeKey _ _) fun y23 h => (ni (xi ?_))))))
 refine cd h (fun h => ?_) fun h => ?_
 refine oi (sx 1 (cg ⟨[(1000000, 1000000)], [], [], [], [], [], [], [], []⟩ h (OK_iParser_mustNumber _) fun y24 h => (sx 2 (ni ?_))))
 exact nxs (OK_iParser_query_J3 _ _ _ _ _ _ _ _ _ _ h) (wr [(11, .old 11), (25, .old 25), (28, .old 28), (36, .old 36)] (es (es er_nil)) (bs_ (br_cons (c0 := [(vB y2.1), (.osl 11 80 13 (b3_1.map cGItem)), (.osl 25 83 3 (y8.1.map cGSource)), (.osl 28 37 10 (y9.1.map cGExpr)), (.osl 36 87 11 (b3_4_16.map cGSortKey)), (vI y24.1)]) (by kernel_rfl) (vrs_cons (vr_same (by kernel_rfl) (by kernel_rfl)) (vrs_cons (vr_old (t := 11) (by kernel_rfl) (by kernel_rfl)) (vrs_cons (vr_old (t := 25) (by kernel_rfl) (by kernel_rfl)) (vrs_cons (vr_old (t := 28) (by kernel_rfl) (by kernel_rfl)) (vrs_cons (vr_old (t := 36) (by kernel_rfl) (by kernel_rfl)) (vrs_cons (vr_same (by kernel_rfl) (by kernel_rfl)) (vrs_nil))))))) (bs_ br_nil))))
 refine ki ?_
 exact nxs (OK_iParser_query_J3 _ _ _ _ _ _ _ _ _ _ h) (wr [(11, .old 11), (25, .old 25), (28, .old 28), (36, .old 36)] (es (es er_nil)) (bs_ (br_cons (c0 := [(vB y2.1), (.osl 11 80 13 (b3_1.map cGItem)), (.osl 25 83 3 (y8.1.map cGSource)), (.osl 28 37 10 (y9.1.map cGExpr)), (.osl 36 87 11 (b3_4_16.map cGSortKey)), (vI (-1))]) (by kernel_rfl) (vrs_cons (vr_same (by kernel_rfl) (by kernel_rfl)) (vrs_cons (vr_old (t := 11) (by kernel_rfl) (by kernel_rfl)) (vrs_cons (vr_old (t := 25) (by kernel_rfl) (by kernel_rfl)) (vrs_cons (vr_old (t := 28) (by kernel_rfl) (by kernel_rfl)) (vrs_cons (vr_old (t := 36) (by kernel_rfl) (by kernel_rfl)) (vrs_cons (vr_same (by kernel_rfl) (by kernel_rfl)) (vrs_nil))))))) (bs_ br_nil))))
theorem OK_iParser_source (p0 : GParser) : FOkB Tryz.prog 80 [(.ptr 1000000 0)] [(1000000, bGParser p0)] (fun (y : GSource × GParser) => (vGSource y.1)) (fun (y : GSource × GParser) => [(1000000, bGParser y.2)]) (iParser_source p0) := by
 intro r h
 rw [iParser_source] at h
 refine ao triParser_source (si (oi (sx 1 (ni (xi (si (oi (sx 1 (cg ⟨[(1000000, 1000000)], [], [], [], [], [], [], [], []⟩ h (OK_iParser_mustKind _ _) fun y1 h => (sx 1 (ni (xi (si (oi (sx 2 (cg ⟨[(1000000, 1000000)], [], [], [], [], [], [], [], []⟩ h (OK_iParser_as _) fun y2 h => (bldv_step (c := [(vS y1.1), (vS y2.1), (.nil 10)]) (by kernel_rfl) (by kernel_rfl) rfl (sx 1 (ni (xi ?_))))))))))))))))))))
 refine ret_wk (s' := ⟨[(2, (.ptr 2 0))], [(2, bGSource (GSource.mk y1.1 y2.1 ([] : List GExpr))), (1000000, bGParser y2.2)]⟩) (wr [] (es er_nil) (br_cons (c0 := [(vS y1.1), (vS y2.1), (.nil 10)]) (by kernel_rfl) (vrs_cons (vr_same (by kernel_rfl) (by kernel_rfl)) (vrs_cons (vr_same (by kernel_rfl) (by kernel_rfl)) (vrs_cons (vr_weak (by kernel_rfl) (by kernel_rfl)) (vrs_nil)))) (br_cons (c0 := [(.d (.sl 3 (y2.2.list.map cGToken))), (vI y2.2.at_), (vB y2.2.failed)]) (by kernel_rfl) (vrs_cons (vr_same (by kernel_rfl) (by kernel_rfl)) (vrs_cons (vr_same (by kernel_rfl) (by kernel_rfl)) (vrs_cons (vr_same (by kernel_rfl) (by kernel_rfl)) (vrs_nil)))) br_nil))) ?_
 injection h with h; subst h
 exact rb
theorem OK_iTextValue (p0 : (List UInt8)) : FOk Tryz.prog 88 [(vS p0)] (fun y => (vGValue y)) (iTextValue p0) := by
 intro r h
 rw [iTextValue] at h
 refine ao triTextValue (si (oi (sx 1 (ni (xi (si (oi (sx 3 (ni (xi (ri ?_)))))))))))
 injection h with h; subst h
 exact rp
theorem OK_iOpText (p0 : Int) : FOk Tryz.prog 51 [(vI p0)] (fun y => (vS y)) (iOpText p0) := by
 intro r h
 rw [iOpText] at h
 refine ao triOpText (si (oi (sx 1 (ni (xi (si (si (oi (sx 3 (gq 0 (gq 1 (pkO h fun y1 h => (ni (xi ?_))))))))))))))
 refine cd h (fun h => ?_) fun h => ?_
 refine si (oi (sx 1 (ni (xi (ri (tr ?_))))))
 injection h with h; subst h
 exact rp
 refine ki (xi (si (oi (bsl_step (l := ([[79, 82], [65, 78, 68], [61], [60, 62], [60], [60, 61], [62], [62, 61], [124, 124], [43], [45], [42], [47], [37], [78, 79, 84], [45]] : List (List UInt8))) (f := cStr) (g := cStr) (by kernel_rfl) (fun _ => rfl) (by kernel_rfl) (sx 2 (iq h fun y2 h => (sx 2 (ni (xi (ri ?_))))))))))
 injection h with h; subst h
 exact rp
theorem OKs_iParser_takeOp_J1 (p1 : (List Int)) (p0 : GParser) : (∀ (y1 : Int) (x10 : Int) (x7 : Int) (r : Int × GParser), iParser_takeOp_J1 y1 p1 x10 p0 x7 = some r → moiParser_takeOp_J1 y1 p1 x10 p0 x7 r) ∧ (∀ (x10 : Int) (r : Int × GParser), iParser_takeOp_L0 p1 p0 x10 = some r → moiParser_takeOp_L0 p1 p0 x10 r) := by
 refine iParser_takeOp_J1.mutual_partial_correctness p1 p0 (fun y1 x10 x7 r => moiParser_takeOp_J1 y1 p1 x10 p0 x7 r) (fun x10 r => moiParser_takeOp_L0 p1 p0 x10 r) ?_ ?_
 · intro F_iParser_takeOp_L0 OK_iParser_takeOp_L0 y1 x10 x7 r h
   delta moiParser_takeOp_J1 aciParser_takeOp_J1
   refine si (oi (sx 3 (cs h (OK_iOpText _) fun y3 h => (cg ⟨[(1000000, 1000000)], [], [], [], [], [], [], [], []⟩ h (OK_iParser_is _ _ _ _) fun y4 h => (ni (xi ?_))))))
   refine cd h (fun h => ?_) fun h => ?_
   refine si (oi (sx 8 (ni (xi (si (oi (sx 2 (ni (xi (ri (br (tr (tr (br (tr ?_)))))))))))))))
   injection h with h; subst h
   exact rb
   exact ki (bn (xi (oi (sx 2 (ni (lbs (OK_iParser_takeOp_L0 _ _ h) (wr [] (es (es (es (es er_nil)))) (bs_ br_nil))))))))
 · intro F_iParser_takeOp_J1 OK_iParser_takeOp_J1 x10 r h
   delta moiParser_takeOp_L0 aciParser_takeOp_L0
   refine loop_unroll (si (oi (sx 1 (ni (xi (si ?_))))))
   refine cd h (fun h => ?_) fun h => ?_
   refine ki (xi (si (bi (si (oi (iqf cI h fun y1 h => (sx 2 (ni (xi (si (oi (sx 1 (ni (xi (si (si (oi (sx 3 (gq 0 (gq 1 (pkO h fun y2 h => (ni (xi ?_)))))))))))))))))))))))
   refine cd h (fun h => ?_) fun h => ?_
   exact oi (sx 1 (ni (nxs (OK_iParser_takeOp_J1 _ _ _ _ h) (wr [] (es (es (es (es (es (es er_nil)))))) (bs_ br_nil)))))
   exact ki (nxs (OK_iParser_takeOp_J1 _ _ _ _ h) (wr [] (es (es (es (es (es (es er_nil)))))) (bs_ br_nil)))
   refine ei (te (te (bh (xi (si (oi (sx 1 (ni (xi (ri ?_))))))))))
   injection h with h; subst h
   exact rb
theorem OK_iParser_takeOp_J1 (y1 : Int) (p1 : (List Int)) (x10 : Int) (p0 : GParser) (x7 : Int) (r : Int × GParser) (h : iParser_takeOp_J1 y1 p1 x10 p0 x7 = some r) : moiParser_takeOp_J1 y1 p1 x10 p0 x7 r := (OKs_iParser_takeOp_J1 p1 p0).1 y1 x10 x7 r h
theorem OK_iParser_takeOp_L0 (p1 : (List Int)) (p0 : GParser) (x10 : Int) (r : Int × GParser) (h : iParser_takeOp_L0 p1 p0 x10 = some r) : moiParser_takeOp_L0 p1 p0 x10 r := (OKs_iParser_takeOp_J1 p1 p0).2 x10 r h
theorem OK_iParser_takeOp (p0 : GParser) (p1 : (List Int)) : FOkB Tryz.prog 37 [(.ptr 1000000 0), (.d (.sl 1 (p1.map cI)))] [(1000000, bGParser p0)] (fun (y : Int × GParser) => (vI y.1)) (fun (y : Int × GParser) => [(1000000, bGParser y.2)]) (iParser_takeOp p0 p1) := by
 intro r h
 rw [iParser_takeOp] at h
 exact ao triParser_takeOp (si (oi (sx 1 (ni (xi (si (si (oi (sx 1 (lqf cI p1 (sx 1 (ni (xi (bi (lgs (OK_iParser_takeOp_L0 _ _ _ _ h) (wr [] (es (es (es (es er_nil)))) (bs_ br_nil)))))))))))))))))
theorem OK_iParser_in_J0 (p2 : Bool) (b7_0 : Int) (b7_8 : (List GExpr)) (b7_9 : (List GQuery)) (b1000000_0 : (List GToken)) (b1000000_1 : Int) (b1000000_2 : Bool) (r : GExpr × GParser) (h : iParser_in_J0 p2 b7_0 b7_8 b7_9 b1000000_0 b1000000_1 b1000000_2 = some r) : moiParser_in_J0 p2 b7_0 b7_8 b7_9 b1000000_0 b1000000_1 b1000000_2 r := by
 rw [iParser_in_J0] at h
 delta moiParser_in_J0 aciParser_in_J0
 refine si (oi (sx 1 (cg ⟨[(1000000, 1000000)], [], [], [], [], [], [], [], []⟩ h (OK_iParser_mustSign _ _) fun y6 h => (ni (xi (si (oi (sx 2 (ni (xi (ri ?_)))))))))))
 injection h with h; subst h
 exact rb
theorem OKs_iParser_chain_iParser_and_L0 : (∀ (p2 : (List Int)) (b7_0 : Int) (b7_1 : Int) (b7_2 : Bool) (b7_3 : Int) (b7_4 : Int) (kb7_5 : ((List UInt8) × ((List UInt8) × ((List UInt8) × ((List GExpr) × ((List GQuery) × ((List GToken) × (Int × Bool)))))))) (r : GExpr × GParser), iParser_chain_iParser_and_L0 p2 b7_0 b7_1 b7_2 b7_3 b7_4 kb7_5 = some r → moiParser_chain_iParser_and_L0 p2 b7_0 b7_1 b7_2 b7_3 b7_4 kb7_5 r) ∧ (∀ (p0 : GParser) (r : GExpr × GParser), iParser_and p0 = some r → ACalls Tryz.prog 25 [(.ptr 1000000 0)] [(1000000, bGParser p0)] fun x b => x = (fun (y : GExpr × GParser) => (vGExpr y.1)) r ∧ bxHas ((fun (y : GExpr × GParser) => [(1000000, bGParser y.2)]) r) b) ∧ (∀ (p0 : GParser) (p2 : (List Int)) (r : GExpr × GParser), iParser_chain_iParser_not p0 p2 = some r → ACalls Tryz.prog 24 [(.ptr 1000000 0), (.fn 1000039 [(.ptr 1000000 0)]), (.d (.sl 1 (p2.map cI)))] [(1000000, bGParser p0)] fun x b => x = (fun (y : GExpr × GParser) => (vGExpr y.1)) r ∧ bxHas ((fun (y : GExpr × GParser) => [(1000000, bGParser y.2)]) r) b) ∧ (∀ (p2 : (List Int)) (b7_0 : Int) (b7_1 : Int) (b7_2 : Bool) (b7_3 : Int) (b7_4 : Int) (kb7_5 : ((List UInt8) × ((List UInt8) × ((List UInt8) × ((List GExpr) × ((List GQuery) × ((List GToken) × (Int × Bool)))))))) (r : GExpr × GParser), iParser_chain_iParser_not_L0 p2 b7_0 b7_1 b7_2 b7_3 b7_4 kb7_5 = some r → moiParser_chain_iParser_not_L0 p2 b7_0 b7_1 b7_2 b7_3 b7_4 kb7_5 r) ∧ (∀ (p0 : GParser) (r : GExpr × GParser), iParser_not p0 = some r → ACalls Tryz.prog 39 [(.ptr 1000000 0)] [(1000000, bGParser p0)] fun x b => x = (fun (y : GExpr × GParser) => (vGExpr y.1)) r ∧ bxHas ((fun (y : GExpr × GParser) => [(1000000, bGParser y.2)]) r) b) ∧ (∀ (p0 : GParser) (r : GExpr × GParser), iParser_cmp p0 = some r → ACalls Tryz.prog 53 [(.ptr 1000000 0)] [(1000000, bGParser p0)] fun x b => x = (fun (y : GExpr × GParser) => (vGExpr y.1)) r ∧ bxHas ((fun (y : GExpr × GParser) => [(1000000, bGParser y.2)]) r) b) ∧ (∀ (p0 : GParser) (p1 : GExpr) (p2 : Bool) (r : GExpr × GParser), iParser_in p0 p1 p2 = some r → ACalls Tryz.prog 63 [(.ptr 1000000 0), (vGExpr p1), (vB p2)] [(1000000, bGParser p0)] fun x b => x = (fun (y : GExpr × GParser) => (vGExpr y.1)) r ∧ bxHas ((fun (y : GExpr × GParser) => [(1000000, bGParser y.2)]) r) b) ∧ (∀ (p0 : GParser) (r : (List GExpr) × GParser), iParser_ors p0 = some r → ACalls Tryz.prog 67 [(.ptr 1000000 0)] [(1000000, bGParser p0)] fun x b => x = (fun (y : (List GExpr) × GParser) => (.osl 2000000 37 10 (y.1.map cGExpr))) r ∧ bxHas ((fun (y : (List GExpr) × GParser) => [(1000000, bGParser y.2)]) r) b) ∧ (∀ (x3 : (List GExpr)) (b1000000_0 : (List GToken)) (b1000000_1 : Int) (b1000000_2 : Bool) (r : (List GExpr) × GParser), iParser_ors_L0 x3 b1000000_0 b1000000_1 b1000000_2 = some r → moiParser_ors_L0 x3 b1000000_0 b1000000_1 b1000000_2 r) ∧ (∀ (p0 : GParser) (r : GExpr × GParser), iParser_or p0 = some r → ACalls Tryz.prog 16 [(.ptr 1000000 0)] [(1000000, bGParser p0)] fun x b => x = (fun (y : GExpr × GParser) => (vGExpr y.1)) r ∧ bxHas ((fun (y : GExpr × GParser) => [(1000000, bGParser y.2)]) r) b) ∧ (∀ (p0 : GParser) (p2 : (List Int)) (r : GExpr × GParser), iParser_chain_iParser_and p0 p2 = some r → ACalls Tryz.prog 24 [(.ptr 1000000 0), (.fn 1000025 [(.ptr 1000000 0)]), (.d (.sl 1 (p2.map cI)))] [(1000000, bGParser p0)] fun x b => x = (fun (y : GExpr × GParser) => (vGExpr y.1)) r ∧ bxHas ((fun (y : GExpr × GParser) => [(1000000, bGParser y.2)]) r) b) ∧ (∀ (p0 : GParser) (r : GQuery × GParser), iParser_query p0 = some r → ACalls Tryz.prog 66 [(.ptr 1000000 0)] [(1000000, bGParser p0)] fun x b => x = (fun (y : GQuery × GParser) => (vGQuery y.1)) r ∧ bxHas ((fun (y : GQuery × GParser) => [(1000000, bGParser y.2)]) r) b) ∧ (∀ (y2 : Bool × GParser) (b3_1 : (List GItem)) (b1000000_0 : (List GToken)) (b1000000_1 : Int) (b1000000_2 : Bool) (r : GQuery × GParser), iParser_query_L0 y2 b3_1 b1000000_0 b1000000_1 b1000000_2 = some r → moiParser_query_L0 y2 b3_1 b1000000_0 b1000000_1 b1000000_2 r) ∧ (∀ (y2 : Bool × GParser) (b3_1 : (List GItem)) (y8 : (List GSource) × GParser) (y9 : (List GExpr) × GParser) (b3_4 : (List GSortKey)) (b1000000_0_13 : (List GToken)) (kb1000000_1_14 : (Int × Bool)) (r : GQuery × GParser), iParser_query_L1 y2 b3_1 y8 y9 b3_4 b1000000_0_13 kb1000000_1_14 = some r → moiParser_query_L1 y2 b3_1 y8 y9 b3_4 b1000000_0_13 kb1000000_1_14 r) ∧ (∀ (p0 : GParser) (r : GSortKey × GParser), iParser_key p0 = some r → ACalls Tryz.prog 73 [(.ptr 1000000 0)] [(1000000, bGParser p0)] fun x b => x = (fun (y : GSortKey × GParser) => (vGSortKey y.1)) r ∧ bxHas ((fun (y : GSortKey × GParser) => [(1000000, bGParser y.2)]) r) b) ∧ (∀ (p0 : GParser) (r : (List GExpr) × GParser), iParser_where p0 = some r → ACalls Tryz.prog 72 [(.ptr 1000000 0)] [(1000000, bGParser p0)] fun x b => x = (fun (y : (List GExpr) × GParser) => (.osl 2000000 37 10 (y.1.map cGExpr))) r ∧ bxHas ((fun (y : (List GExpr) × GParser) => [(1000000, bGParser y.2)]) r) b) ∧ (∀ (p0 : GParser) (r : (List GSource) × GParser), iParser_sources p0 = some r → ACalls Tryz.prog 71 [(.ptr 1000000 0)] [(1000000, bGParser p0)] fun x b => x = (fun (y : (List GSource) × GParser) => (.osl 2000000 83 3 (y.1.map cGSource))) r ∧ bxHas ((fun (y : (List GSource) × GParser) => [(1000000, bGParser y.2)]) r) b) ∧ (∀ (x3 : (List GSource)) (b1000000_0 : (List GToken)) (b1000000_1 : Int) (b1000000_2 : Bool) (r : (List GSource) × GParser), iParser_sources_L0 x3 b1000000_0 b1000000_1 b1000000_2 = some r → moiParser_sources_L0 x3 b1000000_0 b1000000_1 b1000000_2 r) ∧ (∀ (p0 : GParser) (r : GItem × GParser), iParser_item p0 = some r → ACalls Tryz.prog 70 [(.ptr 1000000 0)] [(1000000, bGParser p0)] fun x b => x = (fun (y : GItem × GParser) => (vGItem y.1)) r ∧ bxHas ((fun (y : GItem × GParser) => [(1000000, bGParser y.2)]) r) b) ∧ (∀ (p0 : GParser) (r : GExpr × GParser), iParser_cat p0 = some r → ACalls Tryz.prog 61 [(.ptr 1000000 0)] [(1000000, bGParser p0)] fun x b => x = (fun (y : GExpr × GParser) => (vGExpr y.1)) r ∧ bxHas ((fun (y : GExpr × GParser) => [(1000000, bGParser y.2)]) r) b) ∧ (∀ (p0 : GParser) (p2 : (List Int)) (r : GExpr × GParser), iParser_chain_iParser_sum p0 p2 = some r → ACalls Tryz.prog 24 [(.ptr 1000000 0), (.fn 1000064 [(.ptr 1000000 0)]), (.d (.sl 1 (p2.map cI)))] [(1000000, bGParser p0)] fun x b => x = (fun (y : GExpr × GParser) => (vGExpr y.1)) r ∧ bxHas ((fun (y : GExpr × GParser) => [(1000000, bGParser y.2)]) r) b) ∧ (∀ (p2 : (List Int)) (b7_0 : Int) (b7_1 : Int) (b7_2 : Bool) (b7_3 : Int) (b7_4 : Int) (kb7_5 : ((List UInt8) × ((List UInt8) × ((List UInt8) × ((List GExpr) × ((List GQuery) × ((List GToken) × (Int × Bool)))))))) (r : GExpr × GParser), iParser_chain_iParser_sum_L0 p2 b7_0 b7_1 b7_2 b7_3 b7_4 kb7_5 = some r → moiParser_chain_iParser_sum_L0 p2 b7_0 b7_1 b7_2 b7_3 b7_4 kb7_5 r) ∧ (∀ (p0 : GParser) (r : GExpr × GParser), iParser_sum p0 = some r → ACalls Tryz.prog 64 [(.ptr 1000000 0)] [(1000000, bGParser p0)] fun x b => x = (fun (y : GExpr × GParser) => (vGExpr y.1)) r ∧ bxHas ((fun (y : GExpr × GParser) => [(1000000, bGParser y.2)]) r) b) ∧ (∀ (p0 : GParser) (p2 : (List Int)) (r : GExpr × GParser), iParser_chain_iParser_prod p0 p2 = some r → ACalls Tryz.prog 24 [(.ptr 1000000 0), (.fn 1000068 [(.ptr 1000000 0)]), (.d (.sl 1 (p2.map cI)))] [(1000000, bGParser p0)] fun x b => x = (fun (y : GExpr × GParser) => (vGExpr y.1)) r ∧ bxHas ((fun (y : GExpr × GParser) => [(1000000, bGParser y.2)]) r) b) ∧ (∀ (p2 : (List Int)) (b7_0 : Int) (b7_1 : Int) (b7_2 : Bool) (b7_3 : Int) (b7_4 : Int) (kb7_5 : ((List UInt8) × ((List UInt8) × ((List UInt8) × ((List GExpr) × ((List GQuery) × ((List GToken) × (Int × Bool)))))))) (r : GExpr × GParser), iParser_chain_iParser_prod_L0 p2 b7_0 b7_1 b7_2 b7_3 b7_4 kb7_5 = some r → moiParser_chain_iParser_prod_L0 p2 b7_0 b7_1 b7_2 b7_3 b7_4 kb7_5 r) ∧ (∀ (p0 : GParser) (r : GExpr × GParser), iParser_prod p0 = some r → ACalls Tryz.prog 68 [(.ptr 1000000 0)] [(1000000, bGParser p0)] fun x b => x = (fun (y : GExpr × GParser) => (vGExpr y.1)) r ∧ bxHas ((fun (y : GExpr × GParser) => [(1000000, bGParser y.2)]) r) b) ∧ (∀ (p0 : GParser) (p2 : (List Int)) (r : GExpr × GParser), iParser_chain_iParser_neg p0 p2 = some r → ACalls Tryz.prog 24 [(.ptr 1000000 0), (.fn 1000075 [(.ptr 1000000 0)]), (.d (.sl 1 (p2.map cI)))] [(1000000, bGParser p0)] fun x b => x = (fun (y : GExpr × GParser) => (vGExpr y.1)) r ∧ bxHas ((fun (y : GExpr × GParser) => [(1000000, bGParser y.2)]) r) b) ∧ (∀ (p2 : (List Int)) (b7_0 : Int) (b7_1 : Int) (b7_2 : Bool) (b7_3 : Int) (b7_4 : Int) (kb7_5 : ((List UInt8) × ((List UInt8) × ((List UInt8) × ((List GExpr) × ((List GQuery) × ((List GToken) × (Int × Bool)))))))) (r : GExpr × GParser), iParser_chain_iParser_neg_L0 p2 b7_0 b7_1 b7_2 b7_3 b7_4 kb7_5 = some r → moiParser_chain_iParser_neg_L0 p2 b7_0 b7_1 b7_2 b7_3 b7_4 kb7_5 r) ∧ (∀ (p0 : GParser) (r : GExpr × GParser), iParser_neg p0 = some r → ACalls Tryz.prog 75 [(.ptr 1000000 0)] [(1000000, bGParser p0)] fun x b => x = (fun (y : GExpr × GParser) => (vGExpr y.1)) r ∧ bxHas ((fun (y : GExpr × GParser) => [(1000000, bGParser y.2)]) r) b) ∧ (∀ (p0 : GParser) (r : GExpr × GParser), iParser_prim p0 = some r → ACalls Tryz.prog 82 [(.ptr 1000000 0)] [(1000000, bGParser p0)] fun x b => x = (fun (y : GExpr × GParser) => (vGExpr y.1)) r ∧ bxHas ((fun (y : GExpr × GParser) => [(1000000, bGParser y.2)]) r) b) := by
 refine iParser_chain_iParser_and_L0.mutual_partial_correctness (fun p2 b7_0 b7_1 b7_2 b7_3 b7_4 kb7_5 r => moiParser_chain_iParser_and_L0 p2 b7_0 b7_1 b7_2 b7_3 b7_4 kb7_5 r) (fun p0 r => ACalls Tryz.prog 25 [(.ptr 1000000 0)] [(1000000, bGParser p0)] fun x b => x = (fun (y : GExpr × GParser) => (vGExpr y.1)) r ∧ bxHas ((fun (y : GExpr × GParser) => [(1000000, bGParser y.2)]) r) b) (fun p0 p2 r => ACalls Tryz.prog 24 [(.ptr 1000000 0), (.fn 1000039 [(.ptr 1000000 0)]), (.d (.sl 1 (p2.map cI)))] [(1000000, bGParser p0)] fun x b => x = (fun (y : GExpr × GParser) => (vGExpr y.1)) r ∧ bxHas ((fun (y : GExpr × GParser) => [(1000000, bGParser y.2)]) r) b) (fun p2 b7_0 b7_1 b7_2 b7_3 b7_4 kb7_5 r => moiParser_chain_iParser_not_L0 p2 b7_0 b7_1 b7_2 b7_3 b7_4 kb7_5 r) (fun p0 r => ACalls Tryz.prog 39 [(.ptr 1000000 0)] [(1000000, bGParser p0)] fun x b => x = (fun (y : GExpr × GParser) => (vGExpr y.1)) r ∧ bxHas ((fun (y : GExpr × GParser) => [(1000000, bGParser y.2)]) r) b) (fun p0 r => ACalls Tryz.prog 53 [(.ptr 1000000 0)] [(1000000, bGParser p0)] fun x b => x = (fun (y : GExpr × GParser) => (vGExpr y.1)) r ∧ bxHas ((fun (y : GExpr × GParser) => [(1000000, bGParser y.2)]) r) b) (fun p0 p1 p2 r => ACalls Tryz.prog 63 [(.ptr 1000000 0), (vGExpr p1), (vB p2)] [(1000000, bGParser p0)] fun x b => x = (fun (y : GExpr × GParser) => (vGExpr y.1)) r ∧ bxHas ((fun (y : GExpr × GParser) => [(1000000, bGParser y.2)]) r) b) (fun p0 r => ACalls Tryz.prog 67 [(.ptr 1000000 0)] [(1000000, bGParser p0)] fun x b => x = (fun (y : (List GExpr) × GParser) => (.osl 2000000 37 10 (y.1.map cGExpr))) r ∧ bxHas ((fun (y : (List GExpr) × GParser) => [(1000000, bGParser y.2)]) r) b) (fun x3 b1000000_0 b1000000_1 b1000000_2 r => moiParser_ors_L0 x3 b1000000_0 b1000000_1 b1000000_2 r) (fun p0 r => ACalls Tryz.prog 16 [(.ptr 1000000 0)] [(1000000, bGParser p0)] fun x b => x = (fun (y : GExpr × GParser) => (vGExpr y.1)) r ∧ bxHas ((fun (y : GExpr × GParser) => [(1000000, bGParser y.2)]) r) b) (fun p0 p2 r => ACalls Tryz.prog 24 [(.ptr 1000000 0), (.fn 1000025 [(.ptr 1000000 0)]), (.d (.sl 1 (p2.map cI)))] [(1000000, bGParser p0)] fun x b => x = (fun (y : GExpr × GParser) => (vGExpr y.1)) r ∧ bxHas ((fun (y : GExpr × GParser) => [(1000000, bGParser y.2)]) r) b) (fun p0 r => ACalls Tryz.prog 66 [(.ptr 1000000 0)] [(1000000, bGParser p0)] fun x b => x = (fun (y : GQuery × GParser) => (vGQuery y.1)) r ∧ bxHas ((fun (y : GQuery × GParser) => [(1000000, bGParser y.2)]) r) b) (fun y2 b3_1 b1000000_0 b1000000_1 b1000000_2 r => moiParser_query_L0 y2 b3_1 b1000000_0 b1000000_1 b1000000_2 r) (fun y2 b3_1 y8 y9 b3_4 b1000000_0_13 kb1000000_1_14 r => moiParser_query_L1 y2 b3_1 y8 y9 b3_4 b1000000_0_13 kb1000000_1_14 r) (fun p0 r => ACalls Tryz.prog 73 [(.ptr 1000000 0)] [(1000000, bGParser p0)] fun x b => x = (fun (y : GSortKey × GParser) => (vGSortKey y.1)) r ∧ bxHas ((fun (y : GSortKey × GParser) => [(1000000, bGParser y.2)]) r) b) (fun p0 r => ACalls Tryz.prog 72 [(.ptr 1000000 0)] [(1000000, bGParser p0)] fun x b => x = (fun (y : (List GExpr) × GParser) => (.osl 2000000 37 10 (y.1.map cGExpr))) r ∧ bxHas ((fun (y : (List GExpr) × GParser) => [(1000000, bGParser y.2)]) r) b) (fun p0 r => ACalls Tryz.prog 71 [(.ptr 1000000 0)] [(1000000, bGParser p0)] fun x b => x = (fun (y : (List GSource) × GParser) => (.osl 2000000 83 3 (y.1.map cGSource))) r ∧ bxHas ((fun (y : (List GSource) × GParser) => [(1000000, bGParser y.2)]) r) b) (fun x3 b1000000_0 b1000000_1 b1000000_2 r => moiParser_sources_L0 x3 b1000000_0 b1000000_1 b1000000_2 r) (fun p0 r => ACalls Tryz.prog 70 [(.ptr 1000000 0)] [(1000000, bGParser p0)] fun x b => x = (fun (y : GItem × GParser) => (vGItem y.1)) r ∧ bxHas ((fun (y : GItem × GParser) => [(1000000, bGParser y.2)]) r) b) (fun p0 r => ACalls Tryz.prog 61 [(.ptr 1000000 0)] [(1000000, bGParser p0)] fun x b => x = (fun (y : GExpr × GParser) => (vGExpr y.1)) r ∧ bxHas ((fun (y : GExpr × GParser) => [(1000000, bGParser y.2)]) r) b) (fun p0 p2 r => ACalls Tryz.prog 24 [(.ptr 1000000 0), (.fn 1000064 [(.ptr 1000000 0)]), (.d (.sl 1 (p2.map cI)))] [(1000000, bGParser p0)] fun x b => x = (fun (y : GExpr × GParser) => (vGExpr y.1)) r ∧ bxHas ((fun (y : GExpr × GParser) => [(1000000, bGParser y.2)]) r) b) (fun p2 b7_0 b7_1 b7_2 b7_3 b7_4 kb7_5 r => moiParser_chain_iParser_sum_L0 p2 b7_0 b7_1 b7_2 b7_3 b7_4 kb7_5 r) (fun p0 r => ACalls Tryz.prog 64 [(.ptr 1000000 0)] [(1000000, bGParser p0)] fun x b => x = (fun (y : GExpr × GParser) => (vGExpr y.1)) r ∧ bxHas ((fun (y : GExpr × GParser) => [(1000000, bGParser y.2)]) r) b) (fun p0 p2 r => ACalls Tryz.prog 24 [(.ptr 1000000 0), (.fn 1000068 [(.ptr 1000000 0)]), (.d (.sl 1 (p2.map cI)))] [(1000000, bGParser p0)] fun x b => x = (fun (y : GExpr × GParser) => (vGExpr y.1)) r ∧ bxHas ((fun (y : GExpr × GParser) => [(1000000, bGParser y.2)]) r) b) (fun p2 b7_0 b7_1 b7_2 b7_3 b7_4 kb7_5 r => moiParser_chain_iParser_prod_L0 p2 b7_0 b7_1 b7_2 b7_3 b7_4 kb7_5 r) (fun p0 r => ACalls Tryz.prog 68 [(.ptr 1000000 0)] [(1000000, bGParser p0)] fun x b => x = (fun (y : GExpr × GParser) => (vGExpr y.1)) r ∧ bxHas ((fun (y : GExpr × GParser) => [(1000000, bGParser y.2)]) r) b) (fun p0 p2 r => ACalls Tryz.prog 24 [(.ptr 1000000 0), (.fn 1000075 [(.ptr 1000000 0)]), (.d (.sl 1 (p2.map cI)))] [(1000000, bGParser p0)] fun x b => x = (fun (y : GExpr × GParser) => (vGExpr y.1)) r ∧ bxHas ((fun (y : GExpr × GParser) => [(1000000, bGParser y.2)]) r) b) (fun p2 b7_0 b7_1 b7_2 b7_3 b7_4 kb7_5 r => moiParser_chain_iParser_neg_L0 p2 b7_0 b7_1 b7_2 b7_3 b7_4 kb7_5 r) (fun p0 r => ACalls Tryz.prog 75 [(.ptr 1000000 0)] [(1000000, bGParser p0)] fun x b => x = (fun (y : GExpr × GParser) => (vGExpr y.1)) r ∧ bxHas ((fun (y : GExpr × GParser) => [(1000000, bGParser y.2)]) r) b) (fun p0 r => ACalls Tryz.prog 82 [(.ptr 1000000 0)] [(1000000, bGParser p0)] fun x b => x = (fun (y : GExpr × GParser) => (vGExpr y.1)) r ∧ bxHas ((fun (y : GExpr × GParser) => [(1000000, bGParser y.2)]) r) b) ?_ ?_ ?_ ?_ ?_ ?_ ?_ ?_ ?_ ?_ ?_ ?_ ?_ ?_ ?_ ?_ ?_ ?_ ?_ ?_ ?_ ?_ ?_ ?_ ?_ ?_ ?_ ?_ ?_ ?_
 · intro F_iParser_chain_iParser_and_L0 F_iParser_and OK_iParser_chain_iParser_and_L0 OK_iParser_and p2 b7_0 b7_1 b7_2 b7_3 b7_4 kb7_5 r h
   delta moiParser_chain_iParser_and_L0 aciParser_chain_iParser_and_L0
   refine loop_unroll (bi (si (oi (sx 2 (cg ⟨[(1000000, 1000000)], [], [], [], [], [], [], [], []⟩ h (OK_iParser_takeOp _ _) fun y2 h => (sx 1 (ni (xi (si (si (oi (sx 2 (ni (xi ?_))))))))))))))
   refine cd h (fun h => ?_) fun h => ?_
   refine si (oi (sx 2 (ni (xi (ri (tr (br (tr (br ?_)))))))))
   injection h with h; subst h
   exact rb
   refine ki (xi (dops_in (dsx 3 (dcgm ⟨[(1000000, 1000000)], [], [], [], [], [], [], [], []⟩ [] [] [(.ptr 1000000 0)] h (OK_iParser_and _) fun y3 h => (dcs h (OK_iBin _ _ _) fun y4 h => (dsx 1 (dnil_in (by kernel_rfl) (by kernel_rfl) (bn ?_))))))))
   exact lbs (OK_iParser_chain_iParser_and_L0 _ _ _ _ _ _ (_, (_, (_, (_, (_, (_, (_, _))))))) _ h) (wr [] (es (es (es (es (es er_nil))))) (bs_ (bs_ (bs_ br_nil))))
 · intro F_iParser_chain_iParser_not OK_iParser_chain_iParser_not p0 r h
   refine ao triParser_and (si (oi (sx 1 (ni (xi (si (oi (sx 3 (bsl_step (l := ([2] : List Int)) (f := cI) (g := cI) (by kernel_rfl) (fun _ => rfl) (by kernel_rfl) (cg ⟨[(1000000, 1000000)], [], [], [], [], [], [], [], []⟩ h (OK_iParser_chain_iParser_not _ _) fun y1 h => (sx 1 (ni (xi (ri ?_))))))))))))))
   injection h with h; subst h
   exact rb
 · intro F_iParser_chain_iParser_not_L0 F_iParser_not OK_iParser_chain_iParser_not_L0 OK_iParser_not p0 p2 r h
   refine ao triParser_chain_iParser_not (si (oi (sx 1 (ni (xi (si (oi (sx 1 (cgm ⟨[(1000000, 1000000)], [], [], [], [], [], [], [], []⟩ [(.ptr 1000000 0)] h (OK_iParser_not _) fun y1 h => (sx 2 (ni (xi (bi ?_)))))))))))))
   exact lgs (OK_iParser_chain_iParser_not_L0 _ _ _ _ _ _ (_, (_, (_, (_, (_, (_, (_, _))))))) _ h) (wr [] (es (es (es (es (es er_nil))))) (bs_ (bs_ (bs_ br_nil))))
 · intro F_iParser_chain_iParser_not_L0 F_iParser_not OK_iParser_chain_iParser_not_L0 OK_iParser_not p2 b7_0 b7_1 b7_2 b7_3 b7_4 kb7_5 r h
   delta moiParser_chain_iParser_not_L0 aciParser_chain_iParser_not_L0
   refine loop_unroll (bi (si (oi (sx 2 (cg ⟨[(1000000, 1000000)], [], [], [], [], [], [], [], []⟩ h (OK_iParser_takeOp _ _) fun y2 h => (sx 1 (ni (xi (si (si (oi (sx 2 (ni (xi ?_))))))))))))))
   refine cd h (fun h => ?_) fun h => ?_
   refine si (oi (sx 2 (ni (xi (ri (tr (br (tr (br ?_)))))))))
   injection h with h; subst h
   exact rb
   refine ki (xi (dops_in (dsx 3 (dcgm ⟨[(1000000, 1000000)], [], [], [], [], [], [], [], []⟩ [] [] [(.ptr 1000000 0)] h (OK_iParser_not _) fun y3 h => (dcs h (OK_iBin _ _ _) fun y4 h => (dsx 1 (dnil_in (by kernel_rfl) (by kernel_rfl) (bn ?_))))))))
   exact lbs (OK_iParser_chain_iParser_not_L0 _ _ _ _ _ _ (_, (_, (_, (_, (_, (_, (_, _))))))) _ h) (wr [] (es (es (es (es (es er_nil))))) (bs_ (bs_ (bs_ br_nil))))
 · intro F_iParser_not F_iParser_cmp OK_iParser_not OK_iParser_cmp p0 r h
   refine ao triParser_not (si (oi (sx 1 (ni (xi (si (si (oi (sx 1 (cg ⟨[(1000000, 1000000)], [], [], [], [], [], [], [], []⟩ h (OK_iParser_takeKey _ _) fun y1 h => (ni (xi ?_))))))))))))
   refine cd h (fun h => ?_) fun h => ?_
   refine si (oi (sx 1 (cg ⟨[(1000000, 1000000)], [], [], [], [], [], [], [], []⟩ h (OK_iParser_not _) fun y2 h => (bsl_step (l := ([y2.1] : List GExpr)) (f := cGExpr) (g := oGExpr) (by kernel_rfl) cGExpr_eq (by kernel_rfl) (bldv_step (c := [(vI 3), (vI 15), (vB false), (vI 0), (vI 0), (vS []), (vS []), (vS []), (.osl 7 37 10 (([y2.1] : List GExpr).map cGExpr)), (.nil 6)]) (by kernel_rfl) (by kernel_rfl) rfl ?_)))))
   refine sx 1 (ni (xi ?_))
   refine ret_wk (s' := ⟨[(2, (.ptr 2 0))], [(2, bGExpr (GExpr.mk 3 15 false (GValue.mk 0 0 []) [] [] ([y2.1] : List GExpr) ([] : List GQuery))), (1000000, bGParser y2.2)]⟩) (wr [] (es er_nil) (br_cons (c0 := [(vI 3), (vI 15), (vB false), (vI 0), (vI 0), (vS []), (vS []), (vS []), (.osl 7 37 10 (([y2.1] : List GExpr).map cGExpr)), (.nil 6)]) (by kernel_rfl) (vrs_cons (vr_same (by kernel_rfl) (by kernel_rfl)) (vrs_cons (vr_same (by kernel_rfl) (by kernel_rfl)) (vrs_cons (vr_same (by kernel_rfl) (by kernel_rfl)) (vrs_cons (vr_same (by kernel_rfl) (by kernel_rfl)) (vrs_cons (vr_same (by kernel_rfl) (by kernel_rfl)) (vrs_cons (vr_same (by kernel_rfl) (by kernel_rfl)) (vrs_cons (vr_same (by kernel_rfl) (by kernel_rfl)) (vrs_cons (vr_same (by kernel_rfl) (by kernel_rfl)) (vrs_cons (vr_weak (by kernel_rfl) (by kernel_rfl)) (vrs_cons (vr_weak (by kernel_rfl) (by kernel_rfl)) (vrs_nil))))))))))) (br_cons (c0 := [(.d (.sl 3 (y2.2.list.map cGToken))), (vI y2.2.at_), (vB y2.2.failed)]) (by kernel_rfl) (vrs_cons (vr_same (by kernel_rfl) (by kernel_rfl)) (vrs_cons (vr_same (by kernel_rfl) (by kernel_rfl)) (vrs_cons (vr_same (by kernel_rfl) (by kernel_rfl)) (vrs_nil)))) br_nil))) ?_
   refine tr ?_
   injection h with h; subst h
   exact rb
   refine ki (xi (si (oi (sx 1 (cg ⟨[(1000000, 1000000)], [], [], [], [], [], [], [], []⟩ h (OK_iParser_cmp _) fun y3 h => (sx 1 (ni (xi (ri ?_)))))))))
   injection h with h; subst h
   exact rb
 · intro F_iParser_in F_iParser_cat OK_iParser_in OK_iParser_cat p0 r h
   refine ao triParser_cmp (si (oi (sx 1 (ni (xi (si (oi (sx 1 (cg ⟨[(1000000, 1000000)], [], [], [], [], [], [], [], []⟩ h (OK_iParser_cat _) fun y1 h => (sx 2 (ni (xi (si (si (oi (sx 1 (bsl_step (l := ([3, 4, 5, 6, 7, 8] : List Int)) (f := cI) (g := cI) (by kernel_rfl) (fun _ => rfl) (by kernel_rfl) (cg ⟨[(1000000, 1000000)], [], [], [], [], [], [], [], []⟩ h (OK_iParser_takeOp _ _) fun y2 h => ?_))))))))))))))))))
   refine sx 1 (ni (xi (si (oi (sx 2 (ni (xi ?_)))))))
   refine cd h (fun h => ?_) fun h => ?_
   refine si (dops_in (dsx 3 (dcg ⟨[(1000000, 1000000)], [], [], [], [], [], [], [], []⟩ [] [] h (OK_iParser_cat _) fun y3 h => (dcs h (OK_iBin _ _ _) fun y4 h => (dsx 1 (dnil_in (by kernel_rfl) (by kernel_rfl) (xi (ri (tr ?_)))))))))
   injection h with h; subst h
   exact rb
   refine ki (xi (si (si (oi (sx 1 (cg ⟨[(1000000, 1000000)], [], [], [], [], [], [], [], []⟩ h (OK_iParser_takeKey _ _) fun y5 h => (ni (xi ?_))))))))
   refine cd h (fun h => ?_) fun h => ?_
   refine si (oi (sx 1 (cg ⟨[(1000000, 1000000)], [], [], [], [], [], [], [], []⟩ h (OK_iParser_takeKey _ _) fun y6 h => (sx 1 (ni (xi (si (oi (sx 1 (cg ⟨[(1000000, 1000000)], [], [], [], [], [], [], [], []⟩ h (OK_iParser_mustKey _ _) fun y7 h => (ni (xi (si (oi (sx 2 (bsl_step (l := ([y1.1] : List GExpr)) (f := cGExpr) (g := oGExpr) (by kernel_rfl) cGExpr_eq (by kernel_rfl) ?_))))))))))))))))
   refine bldv_step (c := [(vI 5), (vI 0), (vB y6.1), (vI 0), (vI 0), (vS []), (vS []), (vS []), (.osl 28 37 10 (([y1.1] : List GExpr).map cGExpr)), (.nil 6)]) (by kernel_rfl) (by kernel_rfl) rfl (sx 1 (ni (xi ?_)))
   refine ret_wk (s' := ⟨[(2, (.ptr 2 0))], [(2, bGExpr (GExpr.mk 5 0 y6.1 (GValue.mk 0 0 []) [] [] ([y1.1] : List GExpr) ([] : List GQuery))), (1000000, bGParser y7)]⟩) (wr [] (es er_nil) (br_cons (c0 := [(vI 5), (vI 0), (vB y6.1), (vI 0), (vI 0), (vS []), (vS []), (vS []), (.osl 28 37 10 (([y1.1] : List GExpr).map cGExpr)), (.nil 6)]) (by kernel_rfl) (vrs_cons (vr_same (by kernel_rfl) (by kernel_rfl)) (vrs_cons (vr_same (by kernel_rfl) (by kernel_rfl)) (vrs_cons (vr_same (by kernel_rfl) (by kernel_rfl)) (vrs_cons (vr_same (by kernel_rfl) (by kernel_rfl)) (vrs_cons (vr_same (by kernel_rfl) (by kernel_rfl)) (vrs_cons (vr_same (by kernel_rfl) (by kernel_rfl)) (vrs_cons (vr_same (by kernel_rfl) (by kernel_rfl)) (vrs_cons (vr_same (by kernel_rfl) (by kernel_rfl)) (vrs_cons (vr_weak (by kernel_rfl) (by kernel_rfl)) (vrs_cons (vr_weak (by kernel_rfl) (by kernel_rfl)) (vrs_nil))))))))))) (br_cons (c0 := [(.d (.sl 3 (y7.list.map cGToken))), (vI y7.at_), (vB y7.failed)]) (by kernel_rfl) (vrs_cons (vr_same (by kernel_rfl) (by kernel_rfl)) (vrs_cons (vr_same (by kernel_rfl) (by kernel_rfl)) (vrs_cons (vr_same (by kernel_rfl) (by kernel_rfl)) (vrs_nil)))) br_nil))) ?_
   refine tr ?_
   injection h with h; subst h
   exact rb
   refine ki (xi (si (oi (sx 1 (cg ⟨[(1000000, 1000000)], [], [], [], [], [], [], [], []⟩ h (OK_iParser_takeKey _ _) fun y8 h => (sx 1 (ni (xi (si (bi (si (oi (sx 1 (cg ⟨[(1000000, 1000000)], [], [], [], [], [], [], [], []⟩ h (OK_iParser_takeKey _ _) fun y9 h => (sx 1 (ni (xi ?_)))))))))))))))))
   refine cd h (fun h => ?_) fun h => ?_
   refine si (oi (sx 1 (cg ⟨[(1000000, 1000000)], [], [], [], [], [], [], [], []⟩ h (OK_iParser_cat _) fun y10 h => (sx 2 (ni (xi (si (oi (sx 1 (cg ⟨[(1000000, 1000000)], [], [], [], [], [], [], [], []⟩ h (OK_iParser_mustKey _ _) fun y11 h => (ni (xi (si (dops_in (dsx 4 (dcg ⟨[(1000000, 1000000)], [], [], [], [], [], [], [], []⟩ [] [] h (OK_iParser_cat _) fun y12 h => ?_))))))))))))))))
   refine dbsl_step (l := ([y1.1, y10.1, y12.1] : List GExpr)) (f := cGExpr) (g := oGExpr) (by kernel_rfl) cGExpr_eq (dsx 2 (dnil_in (by kernel_rfl) (by kernel_rfl) (xi (ri (br (tr ?_))))))
   injection h with h; subst h
   exact rb
   refine si (oi (sx 1 (cg ⟨[(1000000, 1000000)], [], [], [], [], [], [], [], []⟩ h (OK_iParser_takeKey _ _) fun y13 h => (sx 1 (ni (xi ?_))))))
   refine cd h (fun h => ?_) fun h => ?_
   refine si (oi (sx 3 (cg ⟨[(1000000, 1000000)], [], [], [], [], [], [], [], []⟩ h (OK_iParser_in _ _ _) fun y14 h => (sx 1 (ni (xi (ri (br (tr ?_)))))))))
   injection h with h; subst h
   exact rb
   refine ki (bn (xi (si (oi (sx 6 (gq 0 (pkO h fun y15 h => (sx 3 (ni (xi (si (oi (sx 2 (ni (xi (ri ?_))))))))))))))))
   injection h with h; subst h
   exact rb
 · intro F_iParser_ors F_iParser_query OK_iParser_ors OK_iParser_query p0 p1 p2 r h
   refine ao triParser_in (si (oi (sx 2 (ni (xi (si (oi (sx 1 (cg ⟨[(1000000, 1000000)], [], [], [], [], [], [], [], []⟩ h (OK_iParser_mustSign _ _) fun y1 h => (ni (xi (si (oi (sx 2 (bsl_step (l := ([p1] : List GExpr)) (f := cGExpr) (g := oGExpr) (by kernel_rfl) cGExpr_eq (by kernel_rfl) ?_)))))))))))))))
   refine bldv_step (c := [(vI 7), (vI 0), (vB p2), (vI 0), (vI 0), (vS []), (vS []), (vS []), (.osl 12 37 10 (([p1] : List GExpr).map cGExpr)), (.nil 6)]) (by kernel_rfl) (by kernel_rfl) rfl (sx 2 (ni (xi (si (si (oi (sx 1 (cg ⟨[(1000000, 1000000)], [], [], [], [], [], [], [], []⟩ h (OK_iParser_isKey _ _) fun y2 h => (ni (xi ?_))))))))))
   refine cd h (fun h => ?_) fun h => ?_
   refine oi (sx 1 (cg ⟨[(1000000, 1000000)], [], [], [], [], [], [], [], []⟩ h (OK_iParser_query _) fun y3 h => (bsl_step (l := ([y3.1] : List GQuery)) (f := cGQuery) (g := oGQuery) (by kernel_rfl) cGQuery_eq (by kernel_rfl) (sx 4 (ni ?_)))))
   exact nxs (OK_iParser_in_J0 _ _ _ _ _ _ _ _ h) (wr [(12, .old 12), (18, .old 18)] (es (es (es er_nil))) (bs_ (br_cons (c0 := [(vI 8), (vI 0), (vB p2), (vI 0), (vI 0), (vS []), (vS []), (vS []), (.osl 12 37 10 (([p1] : List GExpr).map cGExpr)), (.osl 18 70 6 (([y3.1] : List GQuery).map cGQuery))]) (by kernel_rfl) (vrs_cons (vr_same (by kernel_rfl) (by kernel_rfl)) (vrs_cons (vr_same (by kernel_rfl) (by kernel_rfl)) (vrs_cons (vr_same (by kernel_rfl) (by kernel_rfl)) (vrs_cons (vr_same (by kernel_rfl) (by kernel_rfl)) (vrs_cons (vr_same (by kernel_rfl) (by kernel_rfl)) (vrs_cons (vr_same (by kernel_rfl) (by kernel_rfl)) (vrs_cons (vr_same (by kernel_rfl) (by kernel_rfl)) (vrs_cons (vr_same (by kernel_rfl) (by kernel_rfl)) (vrs_cons (vr_old (t := 12) (by kernel_rfl) (by kernel_rfl)) (vrs_cons (vr_old (t := 18) (by kernel_rfl) (by kernel_rfl)) (vrs_nil))))))))))) (bs_ br_nil))))
   refine dops_in (dsx 3 (dcg ⟨[(1000000, 1000000)], [], [], [], [], [(2000000, 24)], [], [24], []⟩ [] [] h (OK_iParser_ors _) fun y4 h => (daq 12 [12, 13, 22] [7] cGExpr h fun y5 h => (dsx 2 (dnil_in (by kernel_rfl) (by kernel_rfl) ?_)))))
   exact nxs (OK_iParser_in_J0 _ _ _ _ _ _ _ _ h) (wr [(12, .old 25), (18, .new 70 6)] (es (es (es er_nil))) (bs_ (br_cons (c0 := [(vI 7), (vI 0), (vB p2), (vI 0), (vI 0), (vS []), (vS []), (vS []), (.osl 25 37 10 (y5.map cGExpr)), (.nil 6)]) (by kernel_rfl) (vrs_cons (vr_same (by kernel_rfl) (by kernel_rfl)) (vrs_cons (vr_same (by kernel_rfl) (by kernel_rfl)) (vrs_cons (vr_same (by kernel_rfl) (by kernel_rfl)) (vrs_cons (vr_same (by kernel_rfl) (by kernel_rfl)) (vrs_cons (vr_same (by kernel_rfl) (by kernel_rfl)) (vrs_cons (vr_same (by kernel_rfl) (by kernel_rfl)) (vrs_cons (vr_same (by kernel_rfl) (by kernel_rfl)) (vrs_cons (vr_same (by kernel_rfl) (by kernel_rfl)) (vrs_cons (vr_old (t := 25) (by kernel_rfl) (by kernel_rfl)) (vrs_cons (vr_new (by kernel_rfl) (by kernel_rfl)) (vrs_nil))))))))))) (bs_ br_nil))))
 · intro F_iParser_ors_L0 F_iParser_or OK_iParser_ors_L0 OK_iParser_or p0 r h
   exact ao triParser_ors (si (oi (sx 1 (ni (xi (si (oi (sx 1 (cg ⟨[(1000000, 1000000)], [], [], [], [], [], [], [], []⟩ h (OK_iParser_or _) fun y1 h => (bsl_step (l := ([y1.1] : List GExpr)) (f := cGExpr) (g := oGExpr) (by kernel_rfl) cGExpr_eq (by kernel_rfl) (sx 1 (ni (xi (si (bi (lgs (OK_iParser_ors_L0 _ _ _ _ _ h) (wr [(3, .old 3)] (es (eo 3 er_nil)) (bs_ br_nil))))))))))))))))))
 · intro F_iParser_ors_L0 F_iParser_or OK_iParser_ors_L0 OK_iParser_or x3 b1000000_0 b1000000_1 b1000000_2 r h
   delta moiParser_ors_L0 aciParser_ors_L0
   refine loop_unroll (si (si (oi (sx 1 (cg ⟨[(1000000, 1000000)], [], [], [], [], [], [], [], []⟩ h (OK_iParser_takeSign _ _) fun y2 h => (ni (xi ?_)))))))
   refine cd h (fun h => ?_) fun h => ?_
   exact ki (xi (bi (oi (sx 2 (cg ⟨[(1000000, 1000000)], [], [], [], [], [], [], [], []⟩ h (OK_iParser_or _) fun y3 h => (bsl_step (l := ([y3.1] : List GExpr)) (f := cGExpr) (g := oGExpr) (by kernel_rfl) cGExpr_eq (by kernel_rfl) (aq 3 cGExpr h fun y4 h => (sx 1 (ni (bn (lbs (OK_iParser_ors_L0 _ _ _ _ _ h) (wr [(3, .old 3)] (es (eo 3 er_nil)) (bs_ br_nil)))))))))))))
   refine ei (te (te (bh (xi (si (oi (sx 2 (ni (xi ?_)))))))))
   refine ret_wk (s' := ⟨[(2, (.osl 2000000 37 10 (x3.map cGExpr)))], [(1000000, bGParser y2.2)]⟩) (wr [(2000000, .old 2)] (eo 2 er_nil) (br_cons (c0 := [(.d (.sl 3 (y2.2.list.map cGToken))), (vI y2.2.at_), (vB y2.2.failed)]) (by kernel_rfl) (vrs_cons (vr_same (by kernel_rfl) (by kernel_rfl)) (vrs_cons (vr_same (by kernel_rfl) (by kernel_rfl)) (vrs_cons (vr_same (by kernel_rfl) (by kernel_rfl)) (vrs_nil)))) br_nil)) ?_
   injection h with h; subst h
   exact rb
 · intro F_iParser_chain_iParser_and OK_iParser_chain_iParser_and p0 r h
   refine ao triParser_or (si (oi (sx 1 (ni (xi (si (oi (sx 3 (bsl_step (l := ([1] : List Int)) (f := cI) (g := cI) (by kernel_rfl) (fun _ => rfl) (by kernel_rfl) (cg ⟨[(1000000, 1000000)], [], [], [], [], [], [], [], []⟩ h (OK_iParser_chain_iParser_and _ _) fun y1 h => (sx 1 (ni (xi (ri ?_))))))))))))))
   injection h with h; subst h
   exact rb
 · intro F_iParser_chain_iParser_and_L0 F_iParser_and OK_iParser_chain_iParser_and_L0 OK_iParser_and p0 p2 r h
   refine ao triParser_chain_iParser_and (si (oi (sx 1 (ni (xi (si (oi (sx 1 (cgm ⟨[(1000000, 1000000)], [], [], [], [], [], [], [], []⟩ [(.ptr 1000000 0)] h (OK_iParser_and _) fun y1 h => (sx 2 (ni (xi (bi ?_)))))))))))))
   exact lgs (OK_iParser_chain_iParser_and_L0 _ _ _ _ _ _ (_, (_, (_, (_, (_, (_, (_, _))))))) _ h) (wr [] (es (es (es (es (es er_nil))))) (bs_ (bs_ (bs_ br_nil))))
 · intro F_iParser_query_L0 F_iParser_item OK_iParser_query_L0 OK_iParser_item p0 r h
   refine ao triParser_query (si (oi (sx 1 (ni (xi (si (oi (sx 1 (cg ⟨[(1000000, 1000000)], [], [], [], [], [], [], [], []⟩ h (OK_iParser_mustKey _ _) fun y1 h => (ni (xi (si (oi (sx 1 (cg ⟨[(1000000, 1000000)], [], [], [], [], [], [], [], []⟩ h (OK_iParser_takeKey _ _) fun y2 h => ?_)))))))))))))))
   refine bldv_step (c := [(vB y2.1), (.nil 13), (.nil 3), (.nil 10), (.nil 11), (vI (-1))]) (by kernel_rfl) (by kernel_rfl) rfl (sx 2 (ni (xi (si (oi (sx 1 (cg ⟨[(1000000, 1000000)], [], [], [], [], [], [], [], []⟩ h (OK_iParser_item _) fun y3 h => (bsl_step (l := ([y3.1] : List GItem)) (f := cGItem) (g := oGItem) (by kernel_rfl) cGItem_eq (by kernel_rfl) (sx 2 (ni (xi (si (bi ?_)))))))))))))
   exact lgs (OK_iParser_query_L0 _ _ _ _ _ _ h) (wr [(11, .old 11)] (es (es (es er_nil))) (bs_ (br_cons (c0 := [(vB y2.1), (.osl 11 80 13 (([y3.1] : List GItem).map cGItem)), (.nil 3), (.nil 10), (.nil 11), (vI (-1))]) (by kernel_rfl) (vrs_cons (vr_same (by kernel_rfl) (by kernel_rfl)) (vrs_cons (vr_old (t := 11) (by kernel_rfl) (by kernel_rfl)) (vrs_cons (vr_same (by kernel_rfl) (by kernel_rfl)) (vrs_cons (vr_same (by kernel_rfl) (by kernel_rfl)) (vrs_cons (vr_same (by kernel_rfl) (by kernel_rfl)) (vrs_cons (vr_same (by kernel_rfl) (by kernel_rfl)) (vrs_nil))))))) (bs_ br_nil))))
 · intro F_iParser_query_L0 F_iParser_query_L1 F_iParser_key F_iParser_where F_iParser_sources F_iParser_item OK_iParser_query_L0 OK_iParser_query_L1 OK_iParser_key OK_iParser_where OK_iParser_sources OK_iParser_item y2 b3_1 b1000000_0 b1000000_1 b1000000_2 r h
   delta moiParser_query_L0 aciParser_query_L0
   refine loop_unroll (si (si (oi (sx 1 (cg ⟨[(1000000, 1000000)], [], [], [], [], [], [], [], []⟩ h (OK_iParser_takeSign _ _) fun y4 h => (ni (xi ?_)))))))
   refine cd h (fun h => ?_) fun h => ?_
   refine ki (xi (bi (dops_in (dsx 3 (dcg ⟨[(1000000, 1000000)], [], [], [], [], [], [], [], []⟩ [] [] h (OK_iParser_item _) fun y5 h => (dbsl_step (l := ([y5.1] : List GItem)) (f := cGItem) (g := oGItem) (by kernel_rfl) cGItem_eq (daq 11 [16] [3] cGItem h fun y6 h => (dsx 2 (dnil_in (by kernel_rfl) (by kernel_rfl) (bn ?_))))))))))
   exact lbs (OK_iParser_query_L0 _ _ _ _ _ _ h) (wr [(11, .old 20)] (es (es (es er_nil))) (bs_ (br_cons (c0 := [(vB y2.1), (.osl 20 80 13 (y6.map cGItem)), (.nil 3), (.nil 10), (.nil 11), (vI (-1))]) (by kernel_rfl) (vrs_cons (vr_same (by kernel_rfl) (by kernel_rfl)) (vrs_cons (vr_old (t := 20) (by kernel_rfl) (by kernel_rfl)) (vrs_cons (vr_same (by kernel_rfl) (by kernel_rfl)) (vrs_cons (vr_same (by kernel_rfl) (by kernel_rfl)) (vrs_cons (vr_same (by kernel_rfl) (by kernel_rfl)) (vrs_cons (vr_same (by kernel_rfl) (by kernel_rfl)) (vrs_nil))))))) (bs_ br_nil))))
   refine ei (te (te (bh (xi (si (oi (sx 1 (cg ⟨[(1000000, 1000000)], [], [], [], [], [], [], [], []⟩ h (OK_iParser_mustKey _ _) fun y7 h => (ni (xi (si (oi (sx 1 (cg ⟨[(1000000, 1000000)], [], [], [], [], [(2000000, 25)], [], [25], []⟩ h (OK_iParser_sources _) fun y8 h => (sx 2 (ni (xi (si (oi (sx 1 ?_))))))))))))))))))))
   refine cg ⟨[(1000000, 1000000)], [], [], [], [], [(2000000, 28)], [], [28], []⟩ h (OK_iParser_where _) fun y9 h => ?_
   let a0 : St := ⟨(29, (.ptr 3 3)) :: (28, (.osl 28 37 10 (y9.1.map cGExpr))) :: (27, (.ptr 1000000 0)) :: (26, (.ptr 3 2)) :: (25, (.osl 25 83 3 (y8.1.map cGSource))) :: (24, (.ptr 1000000 0)) :: (23, (.tup [])) :: (22, (.ptr 1000000 0)) :: (14, (vB y4.1)) :: (13, (.ptr 1000000 0)) :: (stiParser_query_L0 y2 b3_1 b1000000_0 b1000000_1 b1000000_2).env, [(2, [(vB false), (.nil 13), (.nil 3), (.nil 10), (.nil 11), (vI 0)]), (3, [(vB y2.1), (.osl 11 80 13 (b3_1.map cGItem)), (.osl 25 83 3 (y8.1.map cGSource)), (.osl 28 37 10 (y9.1.map cGExpr)), (.nil 11), (vI (-1))]), (1000000, bGParser y9.2)]⟩
   refine st 2 a0 (ni (xi (si (si (oi (sx 1 (cg ⟨[(1000000, 1000000)], [], [], [], [], [], [], [], []⟩ h (OK_iParser_takeKey _ _) fun y10 h => (ni (xi ?_)))))))))
   refine cd h (fun h => ?_) fun h => ?_
   refine si (oi (sx 1 (cg ⟨[(1000000, 1000000)], [], [], [], [], [], [], [], []⟩ h (OK_iParser_mustKey _ _) fun y11 h => (ni (xi (si (oi (sx 1 (cg ⟨[(1000000, 1000000)], [], [], [], [], [], [], [], []⟩ h (OK_iParser_key _) fun y12 h => (bsl_step (l := ([y12.1] : List GSortKey)) (f := cGSortKey) (g := oGSortKey) (by kernel_rfl) cGSortKey_eq (by kernel_rfl) (sx 2 (ni (xi (bi ?_))))))))))))))
   exact lgs (OK_iParser_query_L1 _ _ _ _ _ _ (_, _) _ h) (wr [(11, .old 11), (25, .old 25), (28, .old 28), (36, .old 36)] (es (es (es er_nil))) (bs_ (br_cons (c0 := [(vB y2.1), (.osl 11 80 13 (b3_1.map cGItem)), (.osl 25 83 3 (y8.1.map cGSource)), (.osl 28 37 10 (y9.1.map cGExpr)), (.osl 36 87 11 (([y12.1] : List GSortKey).map cGSortKey)), (vI (-1))]) (by kernel_rfl) (vrs_cons (vr_same (by kernel_rfl) (by kernel_rfl)) (vrs_cons (vr_old (t := 11) (by kernel_rfl) (by kernel_rfl)) (vrs_cons (vr_old (t := 25) (by kernel_rfl) (by kernel_rfl)) (vrs_cons (vr_old (t := 28) (by kernel_rfl) (by kernel_rfl)) (vrs_cons (vr_old (t := 36) (by kernel_rfl) (by kernel_rfl)) (vrs_cons (vr_same (by kernel_rfl) (by kernel_rfl)) (vrs_nil))))))) (bs_ br_nil))))
   refine ki ?_
   exact nxs (OK_iParser_query_J2 _ _ _ _ _ _ _ _ _ h) (wr [(11, .old 11), (25, .old 25), (28, .old 28), (36, .new 87 11)] (es (es (es er_nil))) (bs_ (br_cons (c0 := [(vB y2.1), (.osl 11 80 13 (b3_1.map cGItem)), (.osl 25 83 3 (y8.1.map cGSource)), (.osl 28 37 10 (y9.1.map cGExpr)), (.nil 11), (vI (-1))]) (by kernel_rfl) (vrs_cons (vr_same (by kernel_rfl) (by kernel_rfl)) (vrs_cons (vr_old (t := 11) (by kernel_rfl) (by kernel_rfl)) (vrs_cons (vr_old (t := 25) (by kernel_rfl) (by kernel_rfl)) (vrs_cons (vr_old (t := 28) (by kernel_rfl) (by kernel_rfl)) (vrs_cons (vr_new (by kernel_rfl) (by kernel_rfl)) (vrs_cons (vr_same (by kernel_rfl) (by kernel_rfl)) (vrs_nil))))))) (bs_ br_nil))))
 · intro F_iParser_query_L1 F_iParser_key OK_iParser_query_L1 OK_iParser_key y2 b3_1 y8 y9 b3_4 b1000000_0_13 kb1000000_1_14 r h
   delta moiParser_query_L1 aciParser_query_L1
   refine loop_unroll (si (si (oi (sx 1 (cg ⟨[(1000000, 1000000)], [], [], [], [], [], [], [], []⟩ h (OK_iParser_takeSign _ _) fun y20 h => (ni (xi ?_)))))))
   refine cd h (fun h => ?_) fun h => ?_
   refine ki (xi (bi (dops_in (dsx 3 (dcg ⟨[(1000000, 1000000)], [], [], [], [], [], [], [], []⟩ [] [] h (OK_iParser_key _) fun y21 h => (dbsl_step (l := ([y21.1] : List GSortKey)) (f := cGSortKey) (g := oGSortKey) (by kernel_rfl) cGSortKey_eq (daq 36 [41] [3] cGSortKey h fun y22 h => (dsx 2 (dnil_in (by kernel_rfl) (by kernel_rfl) (bn ?_))))))))))
   exact lbs (OK_iParser_query_L1 _ _ _ _ _ _ (_, _) _ h) (wr [(11, .old 11), (25, .old 25), (28, .old 28), (36, .old 45)] (es (es (es er_nil))) (bs_ (br_cons (c0 := [(vB y2.1), (.osl 11 80 13 (b3_1.map cGItem)), (.osl 25 83 3 (y8.1.map cGSource)), (.osl 28 37 10 (y9.1.map cGExpr)), (.osl 45 87 11 (y22.map cGSortKey)), (vI (-1))]) (by kernel_rfl) (vrs_cons (vr_same (by kernel_rfl) (by kernel_rfl)) (vrs_cons (vr_old (t := 11) (by kernel_rfl) (by kernel_rfl)) (vrs_cons (vr_old (t := 25) (by kernel_rfl) (by kernel_rfl)) (vrs_cons (vr_old (t := 28) (by kernel_rfl) (by kernel_rfl)) (vrs_cons (vr_old (t := 45) (by kernel_rfl) (by kernel_rfl)) (vrs_cons (vr_same (by kernel_rfl) (by kernel_rfl)) (vrs_nil))))))) (bs_ br_nil))))
   refine ei (te (te (bh ?_)))
   exact nxs (OK_iParser_query_J2 _ _ _ _ _ _ _ _ _ h) (wr [(11, .old 11), (25, .old 25), (28, .old 28), (36, .old 36)] (es (es (es er_nil))) (bs_ (br_cons (c0 := [(vB y2.1), (.osl 11 80 13 (b3_1.map cGItem)), (.osl 25 83 3 (y8.1.map cGSource)), (.osl 28 37 10 (y9.1.map cGExpr)), (.osl 36 87 11 (b3_4.map cGSortKey)), (vI (-1))]) (by kernel_rfl) (vrs_cons (vr_same (by kernel_rfl) (by kernel_rfl)) (vrs_cons (vr_old (t := 11) (by kernel_rfl) (by kernel_rfl)) (vrs_cons (vr_old (t := 25) (by kernel_rfl) (by kernel_rfl)) (vrs_cons (vr_old (t := 28) (by kernel_rfl) (by kernel_rfl)) (vrs_cons (vr_old (t := 36) (by kernel_rfl) (by kernel_rfl)) (vrs_cons (vr_same (by kernel_rfl) (by kernel_rfl)) (vrs_nil))))))) (bs_ br_nil))))
 · intro F_iParser_or OK_iParser_or p0 r h
   refine ao triParser_key (si (oi (sx 1 (ni (xi (si (oi (sx 1 (cg ⟨[(1000000, 1000000)], [], [], [], [], [], [], [], []⟩ h (OK_iParser_or _) fun y1 h => (sx 3 (ni (xi (si (si (oi (sx 1 (cg ⟨[(1000000, 1000000)], [], [], [], [], [], [], [], []⟩ h (OK_iParser_takeKey _ _) fun y2 h => (sx 1 (ni (xi ?_))))))))))))))))))))
   refine cd h (fun h => ?_) fun h => ?_
   exact oi (sx 1 (cg ⟨[(1000000, 1000000)], [], [], [], [], [], [], [], []⟩ h (OK_iParser_takeKey _ _) fun y3 h => (sx 2 (ni (nxs (OK_iParser_key_J0 _ _ _ _ _ _ h) (wr [] (es (es er_nil)) (bs_ (bs_ (bs_ br_nil)))))))))
   exact ki (nxs (OK_iParser_key_J0 _ _ _ _ _ _ h) (wr [] (es (es er_nil)) (bs_ (bs_ (bs_ br_nil)))))
 · intro F_iParser_or OK_iParser_or p0 r h
   refine ao triParser_where (si (oi (sx 1 (ni (xi (si (si (oi (sx 1 (cg ⟨[(1000000, 1000000)], [], [], [], [], [], [], [], []⟩ h (OK_iParser_takeKey _ _) fun y1 h => (ni (xi ?_))))))))))))
   refine cd h (fun h => ?_) fun h => ?_
   refine si (oi (sx 1 (cg ⟨[(1000000, 1000000)], [], [], [], [], [], [], [], []⟩ h (OK_iParser_or _) fun y2 h => (bsl_step (l := ([y2.1] : List GExpr)) (f := cGExpr) (g := oGExpr) (by kernel_rfl) cGExpr_eq (by kernel_rfl) (sx 1 (ni (xi ?_)))))))
   refine ret_wk (s' := ⟨[(2, (.osl 2000000 37 10 (([y2.1] : List GExpr).map cGExpr)))], [(1000000, bGParser y2.2)]⟩) (wr [(2000000, .old 2)] (eo 2 er_nil) (br_cons (c0 := [(.d (.sl 3 (y2.2.list.map cGToken))), (vI y2.2.at_), (vB y2.2.failed)]) (by kernel_rfl) (vrs_cons (vr_same (by kernel_rfl) (by kernel_rfl)) (vrs_cons (vr_same (by kernel_rfl) (by kernel_rfl)) (vrs_cons (vr_same (by kernel_rfl) (by kernel_rfl)) (vrs_nil)))) br_nil)) ?_
   refine tr ?_
   injection h with h; subst h
   exact rb
   refine ki (xi (si (oi (sx 1 (ni (xi ?_))))))
   refine ret_wk (s' := ⟨[(2, (.osl 2000000 37 10 (([] : List GExpr).map cGExpr)))], [(1000000, bGParser y1.2)]⟩) (wr [(2000000, .new 37 10)] (en er_nil) (br_cons (c0 := [(.d (.sl 3 (y1.2.list.map cGToken))), (vI y1.2.at_), (vB y1.2.failed)]) (by kernel_rfl) (vrs_cons (vr_same (by kernel_rfl) (by kernel_rfl)) (vrs_cons (vr_same (by kernel_rfl) (by kernel_rfl)) (vrs_cons (vr_same (by kernel_rfl) (by kernel_rfl)) (vrs_nil)))) br_nil)) ?_
   injection h with h; subst h
   exact rb
 · intro F_iParser_sources_L0 OK_iParser_sources_L0 p0 r h
   exact ao triParser_sources (si (oi (sx 1 (ni (xi (si (oi (sx 1 (cg ⟨[(1000000, 1000000)], [], [], [], [], [], [], [], []⟩ h (OK_iParser_source _) fun y1 h => (bsl_step (l := ([y1.1] : List GSource)) (f := cGSource) (g := oGSource) (by kernel_rfl) cGSource_eq (by kernel_rfl) (sx 1 (ni (xi (bi (lgs (OK_iParser_sources_L0 _ _ _ _ _ h) (wr [(3, .old 3)] (es (eo 3 er_nil)) (bs_ br_nil)))))))))))))))))
 · intro F_iParser_or F_iParser_sources_L0 OK_iParser_or OK_iParser_sources_L0 x3 b1000000_0 b1000000_1 b1000000_2 r h
   delta moiParser_sources_L0 aciParser_sources_L0
   refine loop_unroll (bi (bi (si (oi (sx 1 (cg ⟨[(1000000, 1000000)], [], [], [], [], [], [], [], []⟩ h (OK_iParser_takeSign _ _) fun y2 h => (sx 1 (ni (xi ?_)))))))))
   refine cd h (fun h => ?_) fun h => ?_
   exact oi (sx 2 (cg ⟨[(1000000, 1000000)], [], [], [], [], [], [], [], []⟩ h (OK_iParser_source _) fun y3 h => (bsl_step (l := ([y3.1] : List GSource)) (f := cGSource) (g := oGSource) (by kernel_rfl) cGSource_eq (by kernel_rfl) (aq 3 cGSource h fun y4 h => (sx 1 (ni (bn (bn (lbs (OK_iParser_sources_L0 _ _ _ _ _ h) (wr [(3, .old 3)] (es (eo 3 er_nil)) (bs_ br_nil)))))))))))
   refine si (oi (sx 1 (cg ⟨[(1000000, 1000000)], [], [], [], [], [], [], [], []⟩ h (OK_iParser_takeKey _ _) fun y5 h => (sx 1 (ni (xi ?_))))))
   refine cd h (fun h => ?_) fun h => ?_
   refine si (oi (sx 1 (cg ⟨[(1000000, 1000000)], [], [], [], [], [], [], [], []⟩ h (OK_iParser_source _) fun y6 h => (sx 2 (ni (xi (si (oi (sx 1 (cg ⟨[(1000000, 1000000)], [], [], [], [], [], [], [], []⟩ h (OK_iParser_mustKey _ _) fun y7 h => (ni (xi (si (oi (sx 1 (cg ⟨[(1000000, 1000000)], [], [], [], [], [], [], [], []⟩ h (OK_iParser_or _) fun y8 h => ?_))))))))))))))))
   refine bsl_step (l := ([y8.1] : List GExpr)) (f := cGExpr) (g := oGExpr) (by kernel_rfl) cGExpr_eq (by kernel_rfl) (sx 2 (ni (xi (oi (sx 2 (bsl_step (l := ([(GSource.mk y6.1.table y6.1.as_ ([y8.1] : List GExpr))] : List GSource)) (f := cGSource) (g := oGSource) (by kernel_rfl) cGSource_eq (by kernel_rfl) (aq 3 cGSource h fun y9 h => (sx 1 (ni (bn (bn ?_)))))))))))
   exact lbs (OK_iParser_sources_L0 _ _ _ _ _ h) (wr [(3, .old 3)] (es (eo 3 er_nil)) (bs_ br_nil))
   refine si (oi (sx 2 (ni (xi ?_))))
   refine ret_wk (s' := ⟨[(2, (.osl 2000000 83 3 (x3.map cGSource)))], [(1000000, bGParser y5.2)]⟩) (wr [(2000000, .old 2)] (eo 2 er_nil) (br_cons (c0 := [(.d (.sl 3 (y5.2.list.map cGToken))), (vI y5.2.at_), (vB y5.2.failed)]) (by kernel_rfl) (vrs_cons (vr_same (by kernel_rfl) (by kernel_rfl)) (vrs_cons (vr_same (by kernel_rfl) (by kernel_rfl)) (vrs_cons (vr_same (by kernel_rfl) (by kernel_rfl)) (vrs_nil)))) br_nil)) ?_
   refine br (br (tr (br ?_)))
   injection h with h; subst h
   exact rb
 · intro F_iParser_or OK_iParser_or p0 r h
   refine ao triParser_item (si (oi (sx 1 (ni (xi (si (bi (si (oi (sx 1 (cg ⟨[(1000000, 1000000)], [], [], [], [], [], [], [], []⟩ h (OK_iParser_takeSign _ _) fun y1 h => (sx 1 (ni (xi ?_))))))))))))))
   refine cd h (fun h => ?_) fun h => ?_
   refine si (oi (bldv_step (c := [(vB true), (vS []), (vI 0), (vI 0), (vB false), (vI 0), (vI 0), (vS []), (vS []), (vS []), (.nil 10), (.nil 6), (vS [])]) (by kernel_rfl) (by kernel_rfl) rfl (sx 1 (ni (xi ?_)))))
   refine ret_wk (s' := ⟨[(2, (.ptr 2 0))], [(2, bGItem (GItem.mk true [] (GExpr.mk 0 0 false (GValue.mk 0 0 []) [] [] ([] : List GExpr) ([] : List GQuery)) [])), (1000000, bGParser y1.2)]⟩) (wr [] (es er_nil) (br_cons (c0 := [(vB true), (vS []), (vI 0), (vI 0), (vB false), (vI 0), (vI 0), (vS []), (vS []), (vS []), (.nil 10), (.nil 6), (vS [])]) (by kernel_rfl) (vrs_cons (vr_same (by kernel_rfl) (by kernel_rfl)) (vrs_cons (vr_same (by kernel_rfl) (by kernel_rfl)) (vrs_cons (vr_same (by kernel_rfl) (by kernel_rfl)) (vrs_cons (vr_same (by kernel_rfl) (by kernel_rfl)) (vrs_cons (vr_same (by kernel_rfl) (by kernel_rfl)) (vrs_cons (vr_same (by kernel_rfl) (by kernel_rfl)) (vrs_cons (vr_same (by kernel_rfl) (by kernel_rfl)) (vrs_cons (vr_same (by kernel_rfl) (by kernel_rfl)) (vrs_cons (vr_same (by kernel_rfl) (by kernel_rfl)) (vrs_cons (vr_same (by kernel_rfl) (by kernel_rfl)) (vrs_cons (vr_weak (by kernel_rfl) (by kernel_rfl)) (vrs_cons (vr_weak (by kernel_rfl) (by kernel_rfl)) (vrs_cons (vr_same (by kernel_rfl) (by kernel_rfl)) (vrs_nil)))))))))))))) (br_cons (c0 := [(.d (.sl 3 (y1.2.list.map cGToken))), (vI y1.2.at_), (vB y1.2.failed)]) (by kernel_rfl) (vrs_cons (vr_same (by kernel_rfl) (by kernel_rfl)) (vrs_cons (vr_same (by kernel_rfl) (by kernel_rfl)) (vrs_cons (vr_same (by kernel_rfl) (by kernel_rfl)) (vrs_nil)))) br_nil))) ?_
   refine br (tr ?_)
   injection h with h; subst h
   exact rb
   refine si (oi (sx 1 (cg ⟨[(1000000, 1000000)], [], [], [], [], [], [], [], []⟩ h (OK_iParser_isKind _ _) fun y2 h => (sx 1 (gq 0 ?_)))))
   refine gcallg_step ⟨[(1000000, 1000000)], [], [], [], [], [], [], [], []⟩ (p := true) (b := y2) (m := iParser_is y1.2 1 5 [46]) (dflt := (default : Bool)) h (by kernel_rfl) (OK_iParser_is _ _ _ _) (fun hc => by kernel_rfl) (by kernel_rfl) (by kernel_rfl) (by kernel_rfl) (fun y => by kernel_rfl) (by kernel_rfl) (fun hc => (Eq.trans (b := ([(true && (y2 == true))] : List Bool).all id) (by kernel_rfl) (all_c hc rfl))) (fun _ => rfl) fun y3 h => ?_
   refine pkA h fun y4 h => (sx 1 (gq 0 ?_))
   refine gcallg_step ⟨[(1000000, 1000000)], [], [], [], [], [], [], [], []⟩ (p := true) (b := y4) (m := iParser_is y1.2 2 5 [42]) (dflt := (default : Bool)) h (by kernel_rfl) (OK_iParser_is _ _ _ _) (fun hc => by kernel_rfl) (by kernel_rfl) (by kernel_rfl) (by kernel_rfl) (fun y => by kernel_rfl) (by kernel_rfl) (fun hc => (Eq.trans (b := ([(true && (y4 == true))] : List Bool).all id) (by kernel_rfl) (all_c hc rfl))) (fun _ => rfl) fun y5 h => ?_
   refine pkA h fun y6 h => (sx 1 (ni (xi ?_)))
   refine cd h (fun h => ?_) fun h => ?_
   refine si (oi (sx 1 (cg ⟨[(1000000, 1000000)], [], [], [], [], [], [], [], []⟩ h (OK_iParser_mustKind _ _) fun y7 h => (sx 1 (ni (xi (si (oi (sx 8 (ni (xi (si (oi (sx 1 (bldv_step (c := [(vB true), (vS y7.1), (vI 0), (vI 0), (vB false), (vI 0), (vI 0), (vS []), (vS []), (vS []), (.nil 10), (.nil 6), (vS [])]) (by kernel_rfl) (by kernel_rfl) rfl (sx 1 (ni (xi ?_))))))))))))))))))
   refine ret_wk (s' := ⟨[(2, (.ptr 2 0))], [(2, bGItem (GItem.mk true y7.1 (GExpr.mk 0 0 false (GValue.mk 0 0 []) [] [] ([] : List GExpr) ([] : List GQuery)) [])), (1000000, bGParser (GParser.mk y7.2.list (IntKind.wrap .i64 (y7.2.at_ + 2)) y7.2.failed))]⟩) (wr [] (es er_nil) (br_cons (c0 := [(vB true), (vS y7.1), (vI 0), (vI 0), (vB false), (vI 0), (vI 0), (vS []), (vS []), (vS []), (.nil 10), (.nil 6), (vS [])]) (by kernel_rfl) (vrs_cons (vr_same (by kernel_rfl) (by kernel_rfl)) (vrs_cons (vr_same (by kernel_rfl) (by kernel_rfl)) (vrs_cons (vr_same (by kernel_rfl) (by kernel_rfl)) (vrs_cons (vr_same (by kernel_rfl) (by kernel_rfl)) (vrs_cons (vr_same (by kernel_rfl) (by kernel_rfl)) (vrs_cons (vr_same (by kernel_rfl) (by kernel_rfl)) (vrs_cons (vr_same (by kernel_rfl) (by kernel_rfl)) (vrs_cons (vr_same (by kernel_rfl) (by kernel_rfl)) (vrs_cons (vr_same (by kernel_rfl) (by kernel_rfl)) (vrs_cons (vr_same (by kernel_rfl) (by kernel_rfl)) (vrs_cons (vr_weak (by kernel_rfl) (by kernel_rfl)) (vrs_cons (vr_weak (by kernel_rfl) (by kernel_rfl)) (vrs_cons (vr_same (by kernel_rfl) (by kernel_rfl)) (vrs_nil)))))))))))))) (br_cons (c0 := [(.d (.sl 3 (y7.2.list.map cGToken))), (vI (IntKind.wrap .i64 (y7.2.at_ + 2))), (vB y7.2.failed)]) (by kernel_rfl) (vrs_cons (vr_same (by kernel_rfl) (by kernel_rfl)) (vrs_cons (vr_same (by kernel_rfl) (by kernel_rfl)) (vrs_cons (vr_same (by kernel_rfl) (by kernel_rfl)) (vrs_nil)))) br_nil))) ?_
   refine br (tr ?_)
   injection h with h; subst h
   exact rb
   refine ki (bn (xi (si (oi (sx 1 (cg ⟨[(1000000, 1000000)], [], [], [], [], [], [], [], []⟩ h (OK_iParser_or _) fun y8 h => (sx 2 (ni (xi (si (dops_in (dsx 2 (dcg ⟨[(1000000, 1000000)], [], [], [], [], [], [], [], []⟩ [] [] h (OK_iParser_as _) fun y9 h => (dsx 2 (dnil_in (by kernel_rfl) (by kernel_rfl) (xi (ri ?_)))))))))))))))))
   injection h with h; subst h
   exact rb
 · intro F_iParser_chain_iParser_sum OK_iParser_chain_iParser_sum p0 r h
   refine ao triParser_cat (si (oi (sx 1 (ni (xi (si (oi (sx 3 (bsl_step (l := ([9] : List Int)) (f := cI) (g := cI) (by kernel_rfl) (fun _ => rfl) (by kernel_rfl) (cg ⟨[(1000000, 1000000)], [], [], [], [], [], [], [], []⟩ h (OK_iParser_chain_iParser_sum _ _) fun y1 h => (sx 1 (ni (xi (ri ?_))))))))))))))
   injection h with h; subst h
   exact rb
 · intro F_iParser_chain_iParser_sum_L0 F_iParser_sum OK_iParser_chain_iParser_sum_L0 OK_iParser_sum p0 p2 r h
   refine ao triParser_chain_iParser_sum (si (oi (sx 1 (ni (xi (si (oi (sx 1 (cgm ⟨[(1000000, 1000000)], [], [], [], [], [], [], [], []⟩ [(.ptr 1000000 0)] h (OK_iParser_sum _) fun y1 h => (sx 2 (ni (xi (bi ?_)))))))))))))
   exact lgs (OK_iParser_chain_iParser_sum_L0 _ _ _ _ _ _ (_, (_, (_, (_, (_, (_, (_, _))))))) _ h) (wr [] (es (es (es (es (es er_nil))))) (bs_ (bs_ (bs_ br_nil))))
 · intro F_iParser_chain_iParser_sum_L0 F_iParser_sum OK_iParser_chain_iParser_sum_L0 OK_iParser_sum p2 b7_0 b7_1 b7_2 b7_3 b7_4 kb7_5 r h
   delta moiParser_chain_iParser_sum_L0 aciParser_chain_iParser_sum_L0
   refine loop_unroll (bi (si (oi (sx 2 (cg ⟨[(1000000, 1000000)], [], [], [], [], [], [], [], []⟩ h (OK_iParser_takeOp _ _) fun y2 h => (sx 1 (ni (xi (si (si (oi (sx 2 (ni (xi ?_))))))))))))))
   refine cd h (fun h => ?_) fun h => ?_
   refine si (oi (sx 2 (ni (xi (ri (tr (br (tr (br ?_)))))))))
   injection h with h; subst h
   exact rb
   refine ki (xi (dops_in (dsx 3 (dcgm ⟨[(1000000, 1000000)], [], [], [], [], [], [], [], []⟩ [] [] [(.ptr 1000000 0)] h (OK_iParser_sum _) fun y3 h => (dcs h (OK_iBin _ _ _) fun y4 h => (dsx 1 (dnil_in (by kernel_rfl) (by kernel_rfl) (bn ?_))))))))
   exact lbs (OK_iParser_chain_iParser_sum_L0 _ _ _ _ _ _ (_, (_, (_, (_, (_, (_, (_, _))))))) _ h) (wr [] (es (es (es (es (es er_nil))))) (bs_ (bs_ (bs_ br_nil))))
 · intro F_iParser_chain_iParser_prod OK_iParser_chain_iParser_prod p0 r h
   refine ao triParser_sum (si (oi (sx 1 (ni (xi (si (oi (sx 3 (bsl_step (l := ([10, 11] : List Int)) (f := cI) (g := cI) (by kernel_rfl) (fun _ => rfl) (by kernel_rfl) (cg ⟨[(1000000, 1000000)], [], [], [], [], [], [], [], []⟩ h (OK_iParser_chain_iParser_prod _ _) fun y1 h => (sx 1 (ni (xi (ri ?_))))))))))))))
   injection h with h; subst h
   exact rb
 · intro F_iParser_chain_iParser_prod_L0 F_iParser_prod OK_iParser_chain_iParser_prod_L0 OK_iParser_prod p0 p2 r h
   refine ao triParser_chain_iParser_prod (si (oi (sx 1 (ni (xi (si (oi (sx 1 (cgm ⟨[(1000000, 1000000)], [], [], [], [], [], [], [], []⟩ [(.ptr 1000000 0)] h (OK_iParser_prod _) fun y1 h => (sx 2 (ni (xi (bi ?_)))))))))))))
   exact lgs (OK_iParser_chain_iParser_prod_L0 _ _ _ _ _ _ (_, (_, (_, (_, (_, (_, (_, _))))))) _ h) (wr [] (es (es (es (es (es er_nil))))) (bs_ (bs_ (bs_ br_nil))))
 · intro F_iParser_chain_iParser_prod_L0 F_iParser_prod OK_iParser_chain_iParser_prod_L0 OK_iParser_prod p2 b7_0 b7_1 b7_2 b7_3 b7_4 kb7_5 r h
   delta moiParser_chain_iParser_prod_L0 aciParser_chain_iParser_prod_L0
   refine loop_unroll (bi (si (oi (sx 2 (cg ⟨[(1000000, 1000000)], [], [], [], [], [], [], [], []⟩ h (OK_iParser_takeOp _ _) fun y2 h => (sx 1 (ni (xi (si (si (oi (sx 2 (ni (xi ?_))))))))))))))
   refine cd h (fun h => ?_) fun h => ?_
   refine si (oi (sx 2 (ni (xi (ri (tr (br (tr (br ?_)))))))))
   injection h with h; subst h
   exact rb
   refine ki (xi (dops_in (dsx 3 (dcgm ⟨[(1000000, 1000000)], [], [], [], [], [], [], [], []⟩ [] [] [(.ptr 1000000 0)] h (OK_iParser_prod _) fun y3 h => (dcs h (OK_iBin _ _ _) fun y4 h => (dsx 1 (dnil_in (by kernel_rfl) (by kernel_rfl) (bn ?_))))))))
   exact lbs (OK_iParser_chain_iParser_prod_L0 _ _ _ _ _ _ (_, (_, (_, (_, (_, (_, (_, _))))))) _ h) (wr [] (es (es (es (es (es er_nil))))) (bs_ (bs_ (bs_ br_nil))))
 · intro F_iParser_chain_iParser_neg OK_iParser_chain_iParser_neg p0 r h
   refine ao triParser_prod (si (oi (sx 1 (ni (xi (si (oi (sx 3 (bsl_step (l := ([12, 13, 14] : List Int)) (f := cI) (g := cI) (by kernel_rfl) (fun _ => rfl) (by kernel_rfl) (cg ⟨[(1000000, 1000000)], [], [], [], [], [], [], [], []⟩ h (OK_iParser_chain_iParser_neg _ _) fun y1 h => (sx 1 (ni (xi (ri ?_))))))))))))))
   injection h with h; subst h
   exact rb
 · intro F_iParser_chain_iParser_neg_L0 F_iParser_neg OK_iParser_chain_iParser_neg_L0 OK_iParser_neg p0 p2 r h
   refine ao triParser_chain_iParser_neg (si (oi (sx 1 (ni (xi (si (oi (sx 1 (cgm ⟨[(1000000, 1000000)], [], [], [], [], [], [], [], []⟩ [(.ptr 1000000 0)] h (OK_iParser_neg _) fun y1 h => (sx 2 (ni (xi (bi ?_)))))))))))))
   exact lgs (OK_iParser_chain_iParser_neg_L0 _ _ _ _ _ _ (_, (_, (_, (_, (_, (_, (_, _))))))) _ h) (wr [] (es (es (es (es (es er_nil))))) (bs_ (bs_ (bs_ br_nil))))
 · intro F_iParser_chain_iParser_neg_L0 F_iParser_neg OK_iParser_chain_iParser_neg_L0 OK_iParser_neg p2 b7_0 b7_1 b7_2 b7_3 b7_4 kb7_5 r h
   delta moiParser_chain_iParser_neg_L0 aciParser_chain_iParser_neg_L0
   refine loop_unroll (bi (si (oi (sx 2 (cg ⟨[(1000000, 1000000)], [], [], [], [], [], [], [], []⟩ h (OK_iParser_takeOp _ _) fun y2 h => (sx 1 (ni (xi (si (si (oi (sx 2 (ni (xi ?_))))))))))))))
   refine cd h (fun h => ?_) fun h => ?_
   refine si (oi (sx 2 (ni (xi (ri (tr (br (tr (br ?_)))))))))
   injection h with h; subst h
   exact rb
   refine ki (xi (dops_in (dsx 3 (dcgm ⟨[(1000000, 1000000)], [], [], [], [], [], [], [], []⟩ [] [] [(.ptr 1000000 0)] h (OK_iParser_neg _) fun y3 h => (dcs h (OK_iBin _ _ _) fun y4 h => (dsx 1 (dnil_in (by kernel_rfl) (by kernel_rfl) (bn ?_))))))))
   exact lbs (OK_iParser_chain_iParser_neg_L0 _ _ _ _ _ _ (_, (_, (_, (_, (_, (_, (_, _))))))) _ h) (wr [] (es (es (es (es (es er_nil))))) (bs_ (bs_ (bs_ br_nil))))
 · intro F_iParser_neg F_iParser_prim OK_iParser_neg OK_iParser_prim p0 r h
   refine ao triParser_neg (si (oi (sx 1 (ni (xi (si (si (oi (sx 1 (cg ⟨[(1000000, 1000000)], [], [], [], [], [], [], [], []⟩ h (OK_iParser_takeSign _ _) fun y1 h => (ni (xi ?_))))))))))))
   refine cd h (fun h => ?_) fun h => ?_
   refine si (oi (sx 1 (cg ⟨[(1000000, 1000000)], [], [], [], [], [], [], [], []⟩ h (OK_iParser_neg _) fun y2 h => (bsl_step (l := ([y2.1] : List GExpr)) (f := cGExpr) (g := oGExpr) (by kernel_rfl) cGExpr_eq (by kernel_rfl) (bldv_step (c := [(vI 3), (vI 16), (vB false), (vI 0), (vI 0), (vS []), (vS []), (vS []), (.osl 7 37 10 (([y2.1] : List GExpr).map cGExpr)), (.nil 6)]) (by kernel_rfl) (by kernel_rfl) rfl ?_)))))
   refine sx 1 (ni (xi ?_))
   refine ret_wk (s' := ⟨[(2, (.ptr 2 0))], [(2, bGExpr (GExpr.mk 3 16 false (GValue.mk 0 0 []) [] [] ([y2.1] : List GExpr) ([] : List GQuery))), (1000000, bGParser y2.2)]⟩) (wr [] (es er_nil) (br_cons (c0 := [(vI 3), (vI 16), (vB false), (vI 0), (vI 0), (vS []), (vS []), (vS []), (.osl 7 37 10 (([y2.1] : List GExpr).map cGExpr)), (.nil 6)]) (by kernel_rfl) (vrs_cons (vr_same (by kernel_rfl) (by kernel_rfl)) (vrs_cons (vr_same (by kernel_rfl) (by kernel_rfl)) (vrs_cons (vr_same (by kernel_rfl) (by kernel_rfl)) (vrs_cons (vr_same (by kernel_rfl) (by kernel_rfl)) (vrs_cons (vr_same (by kernel_rfl) (by kernel_rfl)) (vrs_cons (vr_same (by kernel_rfl) (by kernel_rfl)) (vrs_cons (vr_same (by kernel_rfl) (by kernel_rfl)) (vrs_cons (vr_same (by kernel_rfl) (by kernel_rfl)) (vrs_cons (vr_weak (by kernel_rfl) (by kernel_rfl)) (vrs_cons (vr_weak (by kernel_rfl) (by kernel_rfl)) (vrs_nil))))))))))) (br_cons (c0 := [(.d (.sl 3 (y2.2.list.map cGToken))), (vI y2.2.at_), (vB y2.2.failed)]) (by kernel_rfl) (vrs_cons (vr_same (by kernel_rfl) (by kernel_rfl)) (vrs_cons (vr_same (by kernel_rfl) (by kernel_rfl)) (vrs_cons (vr_same (by kernel_rfl) (by kernel_rfl)) (vrs_nil)))) br_nil))) ?_
   refine tr ?_
   injection h with h; subst h
   exact rb
   refine ki (xi (si (oi (sx 1 (cg ⟨[(1000000, 1000000)], [], [], [], [], [], [], [], []⟩ h (OK_iParser_prim _) fun y3 h => (sx 1 (ni (xi (ri ?_)))))))))
   injection h with h; subst h
   exact rb
 · intro F_iParser_or F_iParser_query OK_iParser_or OK_iParser_query p0 r h
   refine ao triParser_prim (si (oi (sx 1 (ni (xi (si (bi (si (oi (sx 1 (cg ⟨[(1000000, 1000000)], [], [], [], [], [], [], [], []⟩ h (OK_iParser_isKind _ _) fun y1 h => (sx 1 (ni (xi ?_))))))))))))))
   refine cd h (fun h => ?_) fun h => ?_
   refine si (oi (sx 1 (cg ⟨[(1000000, 1000000)], [], [], [], [], [], [], [], []⟩ h (OK_iParser_mustNumber _) fun y2 h => (cs h (OK_iIntValue _) fun y3 h => (cs h (OK_iLit _) fun y4 h => (sx 1 (ni (xi (ri (br (tr ?_)))))))))))
   injection h with h; subst h
   exact rb
   refine si (oi (sx 1 (cg ⟨[(1000000, 1000000)], [], [], [], [], [], [], [], []⟩ h (OK_iParser_isKind _ _) fun y5 h => (sx 1 (ni (xi ?_))))))
   refine cd h (fun h => ?_) fun h => ?_
   refine si (oi (sx 1 (cg ⟨[(1000000, 1000000)], [], [], [], [], [], [], [], []⟩ h (OK_iParser_mustKind _ _) fun y6 h => (cs h (OK_iTextValue _) fun y7 h => (cs h (OK_iLit _) fun y8 h => (sx 1 (ni (xi (ri (br (tr ?_)))))))))))
   injection h with h; subst h
   exact rb
   refine si (oi (sx 1 (cg ⟨[(1000000, 1000000)], [], [], [], [], [], [], [], []⟩ h (OK_iParser_takeKey _ _) fun y9 h => (sx 1 (ni (xi ?_))))))
   refine cd h (fun h => ?_) fun h => ?_
   refine si (oi (sx 1 (cs h (OK_iLit _) fun y10 h => (sx 1 (ni (xi (ri (br (tr ?_)))))))))
   injection h with h; subst h
   exact rb
   refine si (oi (sx 1 (cg ⟨[(1000000, 1000000)], [], [], [], [], [], [], [], []⟩ h (OK_iParser_takeKey _ _) fun y11 h => (sx 1 (ni (xi ?_))))))
   refine cd h (fun h => ?_) fun h => ?_
   refine si (oi (cs h (OK_iBoolValue _) fun y12 h => (cs h (OK_iLit _) fun y13 h => (sx 1 (ni (xi (ri (br (tr ?_)))))))))
   injection h with h; subst h
   exact rb
   refine si (oi (sx 1 (cg ⟨[(1000000, 1000000)], [], [], [], [], [], [], [], []⟩ h (OK_iParser_takeKey _ _) fun y14 h => (sx 1 (ni (xi ?_))))))
   refine cd h (fun h => ?_) fun h => ?_
   refine si (oi (cs h (OK_iBoolValue _) fun y15 h => (cs h (OK_iLit _) fun y16 h => (sx 1 (ni (xi (ri (br (tr ?_)))))))))
   injection h with h; subst h
   exact rb
   refine si (oi (sx 1 (cg ⟨[(1000000, 1000000)], [], [], [], [], [], [], [], []⟩ h (OK_iParser_isKind _ _) fun y17 h => (sx 1 (ni (xi ?_))))))
   refine cd h (fun h => ?_) fun h => ?_
   refine si (oi (sx 1 (cg ⟨[(1000000, 1000000)], [], [], [], [], [], [], [], []⟩ h (OK_iParser_mustKind _ _) fun y18 h => (sx 1 (ni (xi (si (si (oi (sx 1 (cg ⟨[(1000000, 1000000)], [], [], [], [], [], [], [], []⟩ h (OK_iParser_takeSign _ _) fun y19 h => (ni (xi ?_)))))))))))))
   refine cd h (fun h => ?_) fun h => ?_
   refine si (oi (sx 2 (cg ⟨[(1000000, 1000000)], [], [], [], [], [], [], [], []⟩ h (OK_iParser_mustKind _ _) fun y20 h => (bldv_step (c := [(vI 2), (vI 0), (vB false), (vI 0), (vI 0), (vS []), (vS y18.1), (vS y20.1), (.nil 10), (.nil 6)]) (by kernel_rfl) (by kernel_rfl) rfl (sx 1 (ni (xi ?_)))))))
   refine ret_wk (s' := ⟨[(2, (.ptr 2 0))], [(2, bGExpr (GExpr.mk 2 0 false (GValue.mk 0 0 []) y18.1 y20.1 ([] : List GExpr) ([] : List GQuery))), (1000000, bGParser y20.2)]⟩) (wr [] (es er_nil) (br_cons (c0 := [(vI 2), (vI 0), (vB false), (vI 0), (vI 0), (vS []), (vS y18.1), (vS y20.1), (.nil 10), (.nil 6)]) (by kernel_rfl) (vrs_cons (vr_same (by kernel_rfl) (by kernel_rfl)) (vrs_cons (vr_same (by kernel_rfl) (by kernel_rfl)) (vrs_cons (vr_same (by kernel_rfl) (by kernel_rfl)) (vrs_cons (vr_same (by kernel_rfl) (by kernel_rfl)) (vrs_cons (vr_same (by kernel_rfl) (by kernel_rfl)) (vrs_cons (vr_same (by kernel_rfl) (by kernel_rfl)) (vrs_cons (vr_same (by kernel_rfl) (by kernel_rfl)) (vrs_cons (vr_same (by kernel_rfl) (by kernel_rfl)) (vrs_cons (vr_weak (by kernel_rfl) (by kernel_rfl)) (vrs_cons (vr_weak (by kernel_rfl) (by kernel_rfl)) (vrs_nil))))))))))) (br_cons (c0 := [(.d (.sl 3 (y20.2.list.map cGToken))), (vI y20.2.at_), (vB y20.2.failed)]) (by kernel_rfl) (vrs_cons (vr_same (by kernel_rfl) (by kernel_rfl)) (vrs_cons (vr_same (by kernel_rfl) (by kernel_rfl)) (vrs_cons (vr_same (by kernel_rfl) (by kernel_rfl)) (vrs_nil)))) br_nil))) ?_
   refine tr (br (tr ?_))
   injection h with h; subst h
   exact rb
   refine ki (xi (si (oi (sx 1 (bldv_step (c := [(vI 2), (vI 0), (vB false), (vI 0), (vI 0), (vS []), (vS []), (vS y18.1), (.nil 10), (.nil 6)]) (by kernel_rfl) (by kernel_rfl) rfl (sx 1 (ni (xi ?_))))))))
   refine ret_wk (s' := ⟨[(2, (.ptr 2 0))], [(2, bGExpr (GExpr.mk 2 0 false (GValue.mk 0 0 []) [] y18.1 ([] : List GExpr) ([] : List GQuery))), (1000000, bGParser y19.2)]⟩) (wr [] (es er_nil) (br_cons (c0 := [(vI 2), (vI 0), (vB false), (vI 0), (vI 0), (vS []), (vS []), (vS y18.1), (.nil 10), (.nil 6)]) (by kernel_rfl) (vrs_cons (vr_same (by kernel_rfl) (by kernel_rfl)) (vrs_cons (vr_same (by kernel_rfl) (by kernel_rfl)) (vrs_cons (vr_same (by kernel_rfl) (by kernel_rfl)) (vrs_cons (vr_same (by kernel_rfl) (by kernel_rfl)) (vrs_cons (vr_same (by kernel_rfl) (by kernel_rfl)) (vrs_cons (vr_same (by kernel_rfl) (by kernel_rfl)) (vrs_cons (vr_same (by kernel_rfl) (by kernel_rfl)) (vrs_cons (vr_same (by kernel_rfl) (by kernel_rfl)) (vrs_cons (vr_weak (by kernel_rfl) (by kernel_rfl)) (vrs_cons (vr_weak (by kernel_rfl) (by kernel_rfl)) (vrs_nil))))))))))) (br_cons (c0 := [(.d (.sl 3 (y19.2.list.map cGToken))), (vI y19.2.at_), (vB y19.2.failed)]) (by kernel_rfl) (vrs_cons (vr_same (by kernel_rfl) (by kernel_rfl)) (vrs_cons (vr_same (by kernel_rfl) (by kernel_rfl)) (vrs_cons (vr_same (by kernel_rfl) (by kernel_rfl)) (vrs_nil)))) br_nil))) ?_
   refine br (tr ?_)
   injection h with h; subst h
   exact rb
   refine si (oi (sx 1 (cg ⟨[(1000000, 1000000)], [], [], [], [], [], [], [], []⟩ h (OK_iParser_takeSign _ _) fun y21 h => (sx 1 (ni (xi ?_))))))
   refine cd h (fun h => ?_) fun h => ?_
   refine si (oi (sx 1 (cg ⟨[(1000000, 1000000)], [], [], [], [], [], [], [], []⟩ h (OK_iParser_or _) fun y22 h => (sx 2 (ni (xi (si (oi (sx 1 (cg ⟨[(1000000, 1000000)], [], [], [], [], [], [], [], []⟩ h (OK_iParser_mustSign _ _) fun y23 h => (ni (xi (si (oi (sx 2 (ni (xi (ri (br (tr ?_))))))))))))))))))))
   injection h with h; subst h
   exact rb
   refine si (oi (sx 1 (cg ⟨[(1000000, 1000000)], [], [], [], [], [], [], [], []⟩ h (OK_iParser_takeKey _ _) fun y24 h => (sx 1 (ni (xi ?_))))))
   refine cd h (fun h => ?_) fun h => ?_
   refine si (oi (sx 1 (cg ⟨[(1000000, 1000000)], [], [], [], [], [], [], [], []⟩ h (OK_iParser_mustSign _ _) fun y25 h => (ni (xi (si (oi (sx 1 (cg ⟨[(1000000, 1000000)], [], [], [], [], [], [], [], []⟩ h (OK_iParser_query _) fun y26 h => (sx 2 (ni (xi (si (oi (sx 1 (cg ⟨[(1000000, 1000000)], [], [], [], [], [], [], [], []⟩ h (OK_iParser_mustSign _ _) fun y27 h => (ni (xi (si (oi (sx 1 ?_)))))))))))))))))))))
   refine bsl_step (l := ([y26.1] : List GQuery)) (f := cGQuery) (g := oGQuery) (by kernel_rfl) cGQuery_eq (by kernel_rfl) (bldv_step (c := [(vI 9), (vI 0), (vB false), (vI 0), (vI 0), (vS []), (vS []), (vS []), (.nil 10), (.osl 66 70 6 (([y26.1] : List GQuery).map cGQuery))]) (by kernel_rfl) (by kernel_rfl) rfl (sx 1 (ni (xi ?_))))
   refine ret_wk (s' := ⟨[(2, (.ptr 2 0))], [(2, bGExpr (GExpr.mk 9 0 false (GValue.mk 0 0 []) [] [] ([] : List GExpr) ([y26.1] : List GQuery))), (1000000, bGParser y27)]⟩) (wr [] (es er_nil) (br_cons (c0 := [(vI 9), (vI 0), (vB false), (vI 0), (vI 0), (vS []), (vS []), (vS []), (.nil 10), (.osl 66 70 6 (([y26.1] : List GQuery).map cGQuery))]) (by kernel_rfl) (vrs_cons (vr_same (by kernel_rfl) (by kernel_rfl)) (vrs_cons (vr_same (by kernel_rfl) (by kernel_rfl)) (vrs_cons (vr_same (by kernel_rfl) (by kernel_rfl)) (vrs_cons (vr_same (by kernel_rfl) (by kernel_rfl)) (vrs_cons (vr_same (by kernel_rfl) (by kernel_rfl)) (vrs_cons (vr_same (by kernel_rfl) (by kernel_rfl)) (vrs_cons (vr_same (by kernel_rfl) (by kernel_rfl)) (vrs_cons (vr_same (by kernel_rfl) (by kernel_rfl)) (vrs_cons (vr_weak (by kernel_rfl) (by kernel_rfl)) (vrs_cons (vr_weak (by kernel_rfl) (by kernel_rfl)) (vrs_nil))))))))))) (br_cons (c0 := [(.d (.sl 3 (y27.list.map cGToken))), (vI y27.at_), (vB y27.failed)]) (by kernel_rfl) (vrs_cons (vr_same (by kernel_rfl) (by kernel_rfl)) (vrs_cons (vr_same (by kernel_rfl) (by kernel_rfl)) (vrs_cons (vr_same (by kernel_rfl) (by kernel_rfl)) (vrs_nil)))) br_nil))) ?_
   refine br (tr ?_)
   injection h with h; subst h
   exact rb
   refine ki (bn (xi (si (oi (sx 4 (ni (xi (si (oi (bldv_step (c := [(vI 0), (vI 0), (vB false), (vI 0), (vI 0), (vS []), (vS []), (vS []), (.nil 10), (.nil 6)]) (by kernel_rfl) (by kernel_rfl) rfl (sx 1 (ni (xi ?_)))))))))))))
   refine ret_wk (s' := ⟨[(2, (.ptr 2 0))], [(2, bGExpr (GExpr.mk 0 0 false (GValue.mk 0 0 []) [] [] ([] : List GExpr) ([] : List GQuery))), (1000000, bGParser (GParser.mk y24.2.list y24.2.at_ true))]⟩) (wr [] (es er_nil) (br_cons (c0 := [(vI 0), (vI 0), (vB false), (vI 0), (vI 0), (vS []), (vS []), (vS []), (.nil 10), (.nil 6)]) (by kernel_rfl) (vrs_cons (vr_same (by kernel_rfl) (by kernel_rfl)) (vrs_cons (vr_same (by kernel_rfl) (by kernel_rfl)) (vrs_cons (vr_same (by kernel_rfl) (by kernel_rfl)) (vrs_cons (vr_same (by kernel_rfl) (by kernel_rfl)) (vrs_cons (vr_same (by kernel_rfl) (by kernel_rfl)) (vrs_cons (vr_same (by kernel_rfl) (by kernel_rfl)) (vrs_cons (vr_same (by kernel_rfl) (by kernel_rfl)) (vrs_cons (vr_same (by kernel_rfl) (by kernel_rfl)) (vrs_cons (vr_weak (by kernel_rfl) (by kernel_rfl)) (vrs_cons (vr_weak (by kernel_rfl) (by kernel_rfl)) (vrs_nil))))))))))) (br_cons (c0 := [(.d (.sl 3 (y24.2.list.map cGToken))), (vI y24.2.at_), (vB true)]) (by kernel_rfl) (vrs_cons (vr_same (by kernel_rfl) (by kernel_rfl)) (vrs_cons (vr_same (by kernel_rfl) (by kernel_rfl)) (vrs_cons (vr_same (by kernel_rfl) (by kernel_rfl)) (vrs_nil)))) br_nil))) ?_
   injection h with h; subst h
   exact rb
theorem OK_iParser_chain_iParser_and_L0 (p2 : (List Int)) (b7_0 : Int) (b7_1 : Int) (b7_2 : Bool) (b7_3 : Int) (b7_4 : Int) (kb7_5 : ((List UInt8) × ((List UInt8) × ((List UInt8) × ((List GExpr) × ((List GQuery) × ((List GToken) × (Int × Bool)))))))) (r : GExpr × GParser) (h : iParser_chain_iParser_and_L0 p2 b7_0 b7_1 b7_2 b7_3 b7_4 kb7_5 = some r) : moiParser_chain_iParser_and_L0 p2 b7_0 b7_1 b7_2 b7_3 b7_4 kb7_5 r := (OKs_iParser_chain_iParser_and_L0).1 p2 b7_0 b7_1 b7_2 b7_3 b7_4 kb7_5 r h
theorem OK_iParser_and (p0 : GParser) : FOkB Tryz.prog 25 [(.ptr 1000000 0)] [(1000000, bGParser p0)] (fun (y : GExpr × GParser) => (vGExpr y.1)) (fun (y : GExpr × GParser) => [(1000000, bGParser y.2)]) (iParser_and p0) := fun r h => (OKs_iParser_chain_iParser_and_L0).2.1 p0 r h
theorem OK_iParser_chain_iParser_not (p0 : GParser) (p2 : (List Int)) : FOkB Tryz.prog 24 [(.ptr 1000000 0), (.fn 1000039 [(.ptr 1000000 0)]), (.d (.sl 1 (p2.map cI)))] [(1000000, bGParser p0)] (fun (y : GExpr × GParser) => (vGExpr y.1)) (fun (y : GExpr × GParser) => [(1000000, bGParser y.2)]) (iParser_chain_iParser_not p0 p2) := fun r h => (OKs_iParser_chain_iParser_and_L0).2.2.1 p0 p2 r h
theorem OK_iParser_chain_iParser_not_L0 (p2 : (List Int)) (b7_0 : Int) (b7_1 : Int) (b7_2 : Bool) (b7_3 : Int) (b7_4 : Int) (kb7_5 : ((List UInt8) × ((List UInt8) × ((List UInt8) × ((List GExpr) × ((List GQuery) × ((List GToken) × (Int × Bool)))))))) (r : GExpr × GParser) (h : iParser_chain_iParser_not_L0 p2 b7_0 b7_1 b7_2 b7_3 b7_4 kb7_5 = some r) : moiParser_chain_iParser_not_L0 p2 b7_0 b7_1 b7_2 b7_3 b7_4 kb7_5 r := (OKs_iParser_chain_iParser_and_L0).2.2.2.1 p2 b7_0 b7_1 b7_2 b7_3 b7_4 kb7_5 r h
theorem OK_iParser_not (p0 : GParser) : FOkB Tryz.prog 39 [(.ptr 1000000 0)] [(1000000, bGParser p0)] (fun (y : GExpr × GParser) => (vGExpr y.1)) (fun (y : GExpr × GParser) => [(1000000, bGParser y.2)]) (iParser_not p0) := fun r h => (OKs_iParser_chain_iParser_and_L0).2.2.2.2.1 p0 r h
theorem OK_iParser_cmp (p0 : GParser) : FOkB Tryz.prog 53 [(.ptr 1000000 0)] [(1000000, bGParser p0)] (fun (y : GExpr × GParser) => (vGExpr y.1)) (fun (y : GExpr × GParser) => [(1000000, bGParser y.2)]) (iParser_cmp p0) := fun r h => (OKs_iParser_chain_iParser_and_L0).2.2.2.2.2.1 p0 r h
theorem OK_iParser_in (p0 : GParser) (p1 : GExpr) (p2 : Bool) : FOkB Tryz.prog 63 [(.ptr 1000000 0), (vGExpr p1), (vB p2)] [(1000000, bGParser p0)] (fun (y : GExpr × GParser) => (vGExpr y.1)) (fun (y : GExpr × GParser) => [(1000000, bGParser y.2)]) (iParser_in p0 p1 p2) := fun r h => (OKs_iParser_chain_iParser_and_L0).2.2.2.2.2.2.1 p0 p1 p2 r h
theorem OK_iParser_ors (p0 : GParser) : FOkB Tryz.prog 67 [(.ptr 1000000 0)] [(1000000, bGParser p0)] (fun (y : (List GExpr) × GParser) => (.osl 2000000 37 10 (y.1.map cGExpr))) (fun (y : (List GExpr) × GParser) => [(1000000, bGParser y.2)]) (iParser_ors p0) := fun r h => (OKs_iParser_chain_iParser_and_L0).2.2.2.2.2.2.2.1 p0 r h
theorem OK_iParser_ors_L0 (x3 : (List GExpr)) (b1000000_0 : (List GToken)) (b1000000_1 : Int) (b1000000_2 : Bool) (r : (List GExpr) × GParser) (h : iParser_ors_L0 x3 b1000000_0 b1000000_1 b1000000_2 = some r) : moiParser_ors_L0 x3 b1000000_0 b1000000_1 b1000000_2 r := (OKs_iParser_chain_iParser_and_L0).2.2.2.2.2.2.2.2.1 x3 b1000000_0 b1000000_1 b1000000_2 r h
theorem OK_iParser_or (p0 : GParser) : FOkB Tryz.prog 16 [(.ptr 1000000 0)] [(1000000, bGParser p0)] (fun (y : GExpr × GParser) => (vGExpr y.1)) (fun (y : GExpr × GParser) => [(1000000, bGParser y.2)]) (iParser_or p0) := fun r h => (OKs_iParser_chain_iParser_and_L0).2.2.2.2.2.2.2.2.2.1 p0 r h
theorem OK_iParser_chain_iParser_and (p0 : GParser) (p2 : (List Int)) : FOkB Tryz.prog 24 [(.ptr 1000000 0), (.fn 1000025 [(.ptr 1000000 0)]), (.d (.sl 1 (p2.map cI)))] [(1000000, bGParser p0)] (fun (y : GExpr × GParser) => (vGExpr y.1)) (fun (y : GExpr × GParser) => [(1000000, bGParser y.2)]) (iParser_chain_iParser_and p0 p2) := fun r h => (OKs_iParser_chain_iParser_and_L0).2.2.2.2.2.2.2.2.2.2.1 p0 p2 r h
theorem OK_iParser_query (p0 : GParser) : FOkB Tryz.prog 66 [(.ptr 1000000 0)] [(1000000, bGParser p0)] (fun (y : GQuery × GParser) => (vGQuery y.1)) (fun (y : GQuery × GParser) => [(1000000, bGParser y.2)]) (iParser_query p0) := fun r h => (OKs_iParser_chain_iParser_and_L0).2.2.2.2.2.2.2.2.2.2.2.1 p0 r h
theorem OK_iParser_query_L0 (y2 : Bool × GParser) (b3_1 : (List GItem)) (b1000000_0 : (List GToken)) (b1000000_1 : Int) (b1000000_2 : Bool) (r : GQuery × GParser) (h : iParser_query_L0 y2 b3_1 b1000000_0 b1000000_1 b1000000_2 = some r) : moiParser_query_L0 y2 b3_1 b1000000_0 b1000000_1 b1000000_2 r := (OKs_iParser_chain_iParser_and_L0).2.2.2.2.2.2.2.2.2.2.2.2.1 y2 b3_1 b1000000_0 b1000000_1 b1000000_2 r h
theorem OK_iParser_query_L1 (y2 : Bool × GParser) (b3_1 : (List GItem)) (y8 : (List GSource) × GParser) (y9 : (List GExpr) × GParser) (b3_4 : (List GSortKey)) (b1000000_0_13 : (List GToken)) (kb1000000_1_14 : (Int × Bool)) (r : GQuery × GParser) (h : iParser_query_L1 y2 b3_1 y8 y9 b3_4 b1000000_0_13 kb1000000_1_14 = some r) : moiParser_query_L1 y2 b3_1 y8 y9 b3_4 b1000000_0_13 kb1000000_1_14 r := (OKs_iParser_chain_iParser_and_L0).2.2.2.2.2.2.2.2.2.2.2.2.2.1 y2 b3_1 y8 y9 b3_4 b1000000_0_13 kb1000000_1_14 r h
theorem OK_iParser_key (p0 : GParser) : FOkB Tryz.prog 73 [(.ptr 1000000 0)] [(1000000, bGParser p0)] (fun (y : GSortKey × GParser) => (vGSortKey y.1)) (fun (y : GSortKey × GParser) => [(1000000, bGParser y.2)]) (iParser_key p0) := fun r h => (OKs_iParser_chain_iParser_and_L0).2.2.2.2.2.2.2.2.2.2.2.2.2.2.1 p0 r h
theorem OK_iParser_where (p0 : GParser) : FOkB Tryz.prog 72 [(.ptr 1000000 0)] [(1000000, bGParser p0)] (fun (y : (List GExpr) × GParser) => (.osl 2000000 37 10 (y.1.map cGExpr))) (fun (y : (List GExpr) × GParser) => [(1000000, bGParser y.2)]) (iParser_where p0) := fun r h => (OKs_iParser_chain_iParser_and_L0).2.2.2.2.2.2.2.2.2.2.2.2.2.2.2.1 p0 r h
theorem OK_iParser_sources (p0 : GParser) : FOkB Tryz.prog 71 [(.ptr 1000000 0)] [(1000000, bGParser p0)] (fun (y : (List GSource) × GParser) => (.osl 2000000 83 3 (y.1.map cGSource))) (fun (y : (List GSource) × GParser) => [(1000000, bGParser y.2)]) (iParser_sources p0) := fun r h => (OKs_iParser_chain_iParser_and_L0).2.2.2.2.2.2.2.2.2.2.2.2.2.2.2.2.1 p0 r h
theorem OK_iParser_sources_L0 (x3 : (List GSource)) (b1000000_0 : (List GToken)) (b1000000_1 : Int) (b1000000_2 : Bool) (r : (List GSource) × GParser) (h : iParser_sources_L0 x3 b1000000_0 b1000000_1 b1000000_2 = some r) : moiParser_sources_L0 x3 b1000000_0 b1000000_1 b1000000_2 r := (OKs_iParser_chain_iParser_and_L0).2.2.2.2.2.2.2.2.2.2.2.2.2.2.2.2.2.1 x3 b1000000_0 b1000000_1 b1000000_2 r h
theorem OK_iParser_item (p0 : GParser) : FOkB Tryz.prog 70 [(.ptr 1000000 0)] [(1000000, bGParser p0)] (fun (y : GItem × GParser) => (vGItem y.1)) (fun (y : GItem × GParser) => [(1000000, bGParser y.2)]) (iParser_item p0) := fun r h => (OKs_iParser_chain_iParser_and_L0).2.2.2.2.2.2.2.2.2.2.2.2.2.2.2.2.2.2.1 p0 r h
theorem OK_iParser_cat (p0 : GParser) : FOkB Tryz.prog 61 [(.ptr 1000000 0)] [(1000000, bGParser p0)] (fun (y : GExpr × GParser) => (vGExpr y.1)) (fun (y : GExpr × GParser) => [(1000000, bGParser y.2)]) (iParser_cat p0) := fun r h => (OKs_iParser_chain_iParser_and_L0).2.2.2.2.2.2.2.2.2.2.2.2.2.2.2.2.2.2.2.1 p0 r h
theorem OK_iParser_chain_iParser_sum (p0 : GParser) (p2 : (List Int)) : FOkB Tryz.prog 24 [(.ptr 1000000 0), (.fn 1000064 [(.ptr 1000000 0)]), (.d (.sl 1 (p2.map cI)))] [(1000000, bGParser p0)] (fun (y : GExpr × GParser) => (vGExpr y.1)) (fun (y : GExpr × GParser) => [(1000000, bGParser y.2)]) (iParser_chain_iParser_sum p0 p2) := fun r h => (OKs_iParser_chain_iParser_and_L0).2.2.2.2.2.2.2.2.2.2.2.2.2.2.2.2.2.2.2.2.1 p0 p2 r h
theorem OK_iParser_chain_iParser_sum_L0 (p2 : (List Int)) (b7_0 : Int) (b7_1 : Int) (b7_2 : Bool) (b7_3 : Int) (b7_4 : Int) (kb7_5 : ((List UInt8) × ((List UInt8) × ((List UInt8) × ((List GExpr) × ((List GQuery) × ((List GToken) × (Int × Bool)))))))) (r : GExpr × GParser) (h : iParser_chain_iParser_sum_L0 p2 b7_0 b7_1 b7_2 b7_3 b7_4 kb7_5 = some r) : moiParser_chain_iParser_sum_L0 p2 b7_0 b7_1 b7_2 b7_3 b7_4 kb7_5 r := (OKs_iParser_chain_iParser_and_L0).2.2.2.2.2.2.2.2.2.2.2.2.2.2.2.2.2.2.2.2.2.1 p2 b7_0 b7_1 b7_2 b7_3 b7_4 kb7_5 r h
theorem OK_iParser_sum (p0 : GParser) : FOkB Tryz.prog 64 [(.ptr 1000000 0)] [(1000000, bGParser p0)] (fun (y : GExpr × GParser) => (vGExpr y.1)) (fun (y : GExpr × GParser) => [(1000000, bGParser y.2)]) (iParser_sum p0) := fun r h => (OKs_iParser_chain_iParser_and_L0).2.2.2.2.2.2.2.2.2.2.2.2.2.2.2.2.2.2.2.2.2.2.1 p0 r h
theorem OK_iParser_chain_iParser_prod (p0 : GParser) (p2 : (List Int)) : FOkB Tryz.prog 24 [(.ptr 1000000 0), (.fn 1000068 [(.ptr 1000000 0)]), (.d (.sl 1 (p2.map cI)))] [(1000000, bGParser p0)] (fun (y : GExpr × GParser) => (vGExpr y.1)) (fun (y : GExpr × GParser) => [(1000000, bGParser y.2)]) (iParser_chain_iParser_prod p0 p2) := fun r h => (OKs_iParser_chain_iParser_and_L0).2.2.2.2.2.2.2.2.2.2.2.2.2.2.2.2.2.2.2.2.2.2.2.1 p0 p2 r h
theorem OK_iParser_chain_iParser_prod_L0 (p2 : (List Int)) (b7_0 : Int) (b7_1 : Int) (b7_2 : Bool) (b7_3 : Int) (b7_4 : Int) (kb7_5 : ((List UInt8) × ((List UInt8) × ((List UInt8) × ((List GExpr) × ((List GQuery) × ((List GToken) × (Int × Bool)))))))) (r : GExpr × GParser) (h : iParser_chain_iParser_prod_L0 p2 b7_0 b7_1 b7_2 b7_3 b7_4 kb7_5 = some r) : moiParser_chain_iParser_prod_L0 p2 b7_0 b7_1 b7_2 b7_3 b7_4 kb7_5 r := (OKs_iParser_chain_iParser_and_L0).2.2.2.2.2.2.2.2.2.2.2.2.2.2.2.2.2.2.2.2.2.2.2.2.1 p2 b7_0 b7_1 b7_2 b7_3 b7_4 kb7_5 r h
theorem OK_iParser_prod (p0 : GParser) : FOkB Tryz.prog 68 [(.ptr 1000000 0)] [(1000000, bGParser p0)] (fun (y : GExpr × GParser) => (vGExpr y.1)) (fun (y : GExpr × GParser) => [(1000000, bGParser y.2)]) (iParser_prod p0) := fun r h => (OKs_iParser_chain_iParser_and_L0).2.2.2.2.2.2.2.2.2.2.2.2.2.2.2.2.2.2.2.2.2.2.2.2.2.1 p0 r h
theorem OK_iParser_chain_iParser_neg (p0 : GParser) (p2 : (List Int)) : FOkB Tryz.prog 24 [(.ptr 1000000 0), (.fn 1000075 [(.ptr 1000000 0)]), (.d (.sl 1 (p2.map cI)))] [(1000000, bGParser p0)] (fun (y : GExpr × GParser) => (vGExpr y.1)) (fun (y : GExpr × GParser) => [(1000000, bGParser y.2)]) (iParser_chain_iParser_neg p0 p2) := fun r h => (OKs_iParser_chain_iParser_and_L0).2.2.2.2.2.2.2.2.2.2.2.2.2.2.2.2.2.2.2.2.2.2.2.2.2.2.1 p0 p2 r h
theorem OK_iParser_chain_iParser_neg_L0 (p2 : (List Int)) (b7_0 : Int) (b7_1 : Int) (b7_2 : Bool) (b7_3 : Int) (b7_4 : Int) (kb7_5 : ((List UInt8) × ((List UInt8) × ((List UInt8) × ((List GExpr) × ((List GQuery) × ((List GToken) × (Int × Bool)))))))) (r : GExpr × GParser) (h : iParser_chain_iParser_neg_L0 p2 b7_0 b7_1 b7_2 b7_3 b7_4 kb7_5 = some r) : moiParser_chain_iParser_neg_L0 p2 b7_0 b7_1 b7_2 b7_3 b7_4 kb7_5 r := (OKs_iParser_chain_iParser_and_L0).2.2.2.2.2.2.2.2.2.2.2.2.2.2.2.2.2.2.2.2.2.2.2.2.2.2.2.1 p2 b7_0 b7_1 b7_2 b7_3 b7_4 kb7_5 r h
theorem OK_iParser_neg (p0 : GParser) : FOkB Tryz.prog 75 [(.ptr 1000000 0)] [(1000000, bGParser p0)] (fun (y : GExpr × GParser) => (vGExpr y.1)) (fun (y : GExpr × GParser) => [(1000000, bGParser y.2)]) (iParser_neg p0) := fun r h => (OKs_iParser_chain_iParser_and_L0).2.2.2.2.2.2.2.2.2.2.2.2.2.2.2.2.2.2.2.2.2.2.2.2.2.2.2.2.1 p0 r h
theorem OK_iParser_prim (p0 : GParser) : FOkB Tryz.prog 82 [(.ptr 1000000 0)] [(1000000, bGParser p0)] (fun (y : GExpr × GParser) => (vGExpr y.1)) (fun (y : GExpr × GParser) => [(1000000, bGParser y.2)]) (iParser_prim p0) := fun r h => (OKs_iParser_chain_iParser_and_L0).2.2.2.2.2.2.2.2.2.2.2.2.2.2.2.2.2.2.2.2.2.2.2.2.2.2.2.2.2 p0 r h
theorem OK_iTakeExpr (p0 : (List GToken)) : FOk Tryz.prog 12 [(.d (.sl 3 (p0.map cGToken)))] (fun y => (.tup [(vGExpr y.1), (vI y.2)])) (iTakeExpr p0) := by
 intro r h
 rw [iTakeExpr] at h
 refine ao triTakeExpr (si (oi (sx 2 (ni (xi (si (oi (sx 4 (ni (xi (si (oi (sx 1 (cg ⟨[(1000000, 9)], [], [], [], [], [], [], [], []⟩ h (OK_iParser_or _) fun y1 h => (sx 2 (ni (xi (si (si (oi (sx 1 (cg ⟨[(1000000, 9)], [], [], [], [], [], [], [], []⟩ h (OK_iParser_end _) fun y2 h => (sx 1 (ni (xi (si (oi (sx 2 (ni (xi ?_))))))))))))))))))))))))))))))
 refine cd h (fun h => ?_) fun h => ?_
 refine si (oi (bldv_step (c := [(vI 0), (vI 0), (vB false), (vI 0), (vI 0), (vS []), (vS []), (vS []), (.nil 10), (.nil 6)]) (by kernel_rfl) (by kernel_rfl) rfl (sx 3 (ni (xi ?_)))))
 refine ret_wk (s' := ⟨[(2, (.ptr 2 0)), (3, (vI y2))], [(2, bGExpr (GExpr.mk 0 0 false (GValue.mk 0 0 []) [] [] ([] : List GExpr) ([] : List GQuery)))]⟩) (wr [] (es (es er_nil)) (br_cons (c0 := [(vI 0), (vI 0), (vB false), (vI 0), (vI 0), (vS []), (vS []), (vS []), (.nil 10), (.nil 6)]) (by kernel_rfl) (vrs_cons (vr_same (by kernel_rfl) (by kernel_rfl)) (vrs_cons (vr_same (by kernel_rfl) (by kernel_rfl)) (vrs_cons (vr_same (by kernel_rfl) (by kernel_rfl)) (vrs_cons (vr_same (by kernel_rfl) (by kernel_rfl)) (vrs_cons (vr_same (by kernel_rfl) (by kernel_rfl)) (vrs_cons (vr_same (by kernel_rfl) (by kernel_rfl)) (vrs_cons (vr_same (by kernel_rfl) (by kernel_rfl)) (vrs_cons (vr_same (by kernel_rfl) (by kernel_rfl)) (vrs_cons (vr_weak (by kernel_rfl) (by kernel_rfl)) (vrs_cons (vr_weak (by kernel_rfl) (by kernel_rfl)) (vrs_nil))))))))))) br_nil)) ?_
 refine tr ?_
 injection h with h; subst h
 exact rnp
 refine ki (xi (si (oi (sx 3 (ni (xi (ri ?_)))))))
 injection h with h; subst h
 exact rnp
theorem OK_iBegins (p0 : (List GToken)) : FOk Tryz.prog 7 [(.d (.sl 3 (p0.map cGToken)))] (fun y => (vB y)) (iBegins p0) := by
 intro r h
 rw [iBegins] at h
 refine ao triBegins (si (oi (sx 1 (ni (xi (si (oi (sx 1 (cs h (OK_iTakeExpr _) fun y1 h => (sx 6 (ni (xi (si (oi (sx 3 (gq 0 (gq 0 (glq 1 p0 (gq 2 (pkO h fun y2 h => (sx 1 (ni (xi (ri ?_))))))))))))))))))))))))
 injection h with h; subst h
 exact rp
theorem OK_sL12End (p0 : GL12In) : FOkB Tryz.prog 15 [(.ptr 1000000 0)] [(1000000, bGL12In p0)] (fun (y : Int) => (vI y)) (fun (y : Int) => [(1000000, bGL12In p0)]) (sL12End p0) := by
 intro r h
 rw [sL12End] at h
 refine ao trsL12End (si (oi (sx 1 (ni (xi (si (si (dops_in (dsx 6 (dgq 0 (dgq 1 (dgq 1 (dgq 1 (dgq 0 (dgq 1 (dgq 1 (dgq 1 (dgp_step (p := true) (b := (!p0.bad)) (v' := (vI (ln p0.t))) (by kernel_rfl) rfl rfl (fun hc => vop_len (sz := 3) (l := p0.t) (f := cGToken) (Eq.trans (b := ([(true && ((!p0.bad) == true))] : List Bool).all id) (by kernel_rfl) (all_c hc rfl)) (by kernel_rfl)) (dgq 2 (dpkA h fun y1 h => ?_))))))))))))))))))))
 refine dnil_in (by kernel_rfl) (by kernel_rfl) (xi ?_)
 refine cd h (fun h => ?_) fun h => ?_
 refine si (oi (sx 1 (ni (xi (ri (tr ?_))))))
 injection h with h; subst h
 exact rb
 refine ki (xi (si (oi (sx 5 (ni (xi (ri ?_)))))))
 injection h with h; subst h
 exact rb
theorem OK_sL12Cmp_J0 (y1 : GExpr × GL12In) (y15 : Bool × GL12In) (b1000000_2 : Bool) (r : GExpr × GL12In) (h : sL12Cmp_J0 y1 y15 b1000000_2 = some r) : mosL12Cmp_J0 y1 y15 b1000000_2 r := by
 rw [sL12Cmp_J0] at h
 delta mosL12Cmp_J0 acsL12Cmp_J0
 refine si (oi (sx 2 (ni (xi (ri ?_)))))
 injection h with h; subst h
 exact rb
end Go.Proofs.YtjmoiaegaicojaaGreatDoor
