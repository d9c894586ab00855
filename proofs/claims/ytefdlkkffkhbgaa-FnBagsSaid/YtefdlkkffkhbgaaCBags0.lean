/- That the code computes these functions (printed by a program). -/
import Derived.KernelRfl
import Derived.Test.YtefdlkkffkhbgaaAbG2
import Derived.Test.YtefdlkkffkhbgaaAbC3
import Derived.Test.YtefdlkkffkhbgaaAbX5
import Derived.Test.YtefdlkkffkhbgaaAbX2
import Derived.Test.YtefdlkkffkhbgaaFBags
import Derived.Test.YtefdlkkffkhbgaaProg
namespace Go.Proofs.Ytefdlkkffkhbgaa
open Go Go.RowKit Go.Ab
attribute [local irreducible] avc aops aop dgo retQ thenK blockK wkK drawK stz dstz ACalls eff CallN.st
def cI (n : Int) : List D := [.i .i64 n]
def cU8 (n : Int) : List D := [.i .u8 n]
def cU64 (n : Int) : List D := [.i .u64 n]
def cI32 (n : Int) : List D := [.i .i32 n]
def cU32 (n : Int) : List D := [.i .u32 n]
def cB (b : Bool) : List D := [.b b]
def cStr (s : List UInt8) : List D := [.s (bs s)]
def cSl {α : Type} (sz : Nat) (f : α → List D) (l : List α) : List D := [.sl sz (l.map f)]
def cGValue (x : GValue) : List D := [(.i .i64 x.kind), (.i .i64 x.num), (.s (bs x.text))]
def vGValue (x : GValue) : V := .agg (cGValue x)
def bGValue (x : GValue) : List V := (cGValue x).map V.d
def cGL1Cur (x : GL1Cur) : List D := [(.sl 1 (x.b.map cU8)), (.i .i64 x.i), (.i .i64 x.h)]
def vGL1Cur (x : GL1Cur) : V := .agg (cGL1Cur x)
def bGL1Cur (x : GL1Cur) : List V := (cGL1Cur x).map V.d
instance : Enc (List GValue) := ⟨(cSl 3 cGValue), (cSl 3 cGValue), (fun _ => rfl)⟩
instance : Enc GValue := ⟨cGValue, cGValue, (fun _ => rfl)⟩
instance : Enc (List UInt8) := ⟨cStr, cStr, (fun _ => rfl)⟩
def acwFnBags_L0 : AC := (.loop (.seq (.seq (.ops [.mv 43 7, .bin 44 .geq 43 (kI 0)]) (.cond 44 .skip (.exit 0))) (.seq (.block 1 (.ops [.mv 47 6, .mv 48 3, .mv 49 7, .ia 50 1 48 49, .ld 51 1 false 50, .bsl 52 28 1 [51], .app 53 28 1 24 47 52, .asg 6 53])) (.ops [.mv 45 7, .bin 46 .sub 45 (kI 1), .asg 7 46]))))
def ccwFnBags_0 : AC := (.seq (.ops [.mv 54 3, .mv 55 6, .call (some 56) 6 [54, 55], .mv 57 56, .g 57 true (.mv 58 3), .g 57 true (.len 59 58), .g 57 true (.bin 60 .eql 59 (kI 0)), .g 57 true (.mv 61 60), .g 61 false (.mv 62 3), .g 61 false (.mv 63 6), .g 61 false (.mv 64 3), .g 61 false (.ia 65 1 64 (kI 0)), .g 61 false (.ld 66 1 false 65), .g 61 false (.bsl 67 28 1 [66]), .g 61 false (.app 68 28 1 24 63 67), .g 61 false (.call (some 69) 6 [62, 68]), .g 61 false (.not 70 69), .g 57 true (.pick 71 61 (kB true) 70), .pick 72 57 71 (kB false), .asg 2 72]) .ret)
def acwFnBags : AC := (.seq (.ops [.asg 2 (kB false)]) (.seq (.seq (.ops [.mv 8 0, .call (some 9) 4 [8]]) (.cond 9 (.seq (.ops [.asg 2 (kB true)]) .ret) .skip)) (.seq (.ops [.mv 11 0, .call (some 12) 5 [11], .mv 10 12, .ext 13 10 0, .ext 14 10 1, .asg 3 13, .asg 4 14]) (.seq (.ops [.mv 15 3, .mv 16 4, .call (some 17) 6 [15, 16], .asg 5 17]) (.seq (.seq (.ops [.mv 18 5, .mv 19 3, .mv 20 4, .call (some 21) 7 [19, 20], .eqb 22 true 18 21, .mv 23 22, .g 23 false (.mv 24 5), .g 23 false (.mv 25 4), .g 23 false (.mv 26 3), .g 23 false (.call (some 27) 6 [25, 26]), .g 23 false (.eqb 28 true 24 27), .pick 29 23 (kB true) 28, .mv 30 29, .g 30 false (.mv 31 3), .g 30 false (.mv 32 4), .g 30 false (.call (some 33) 8 [31, 32]), .g 30 false (.mv 34 33), .g 34 true (.mv 35 5), .g 34 true (.not 36 35), .g 30 false (.pick 37 34 36 (kB false)), .pick 38 30 (kB true) 37]) (.cond 38 (.seq (.ops [.asg 2 (kB false)]) .ret) .skip)) (.seq (.ops [.bsl 39 28 1 [], .asg 6 39]) (.seq (.seq (.ops [.mv 40 3, .len 41 40, .bin 42 .sub 41 (kI 1), .asg 7 42]) (.block 0 acwFnBags_L0)) ccwFnBags_0)))))))
theorem trwFnBags : trFn Try.prog 3 = some (acwFnBags, [.mv 0 2], 73) := by kernel_rfl
def qwFnBags (r : Bool) : Exit → St → Prop := retQ [.mv 0 2] fun x _ => x = (fun y => (vB y)) r
def qwFnBags_0 (r : Bool) : Exit → St → Prop := (thenK (wkK (avc Try.prog ccwFnBags_0 (qwFnBags r))) (qwFnBags r))
def qwFnBags_1 (r : Bool) : Exit → St → Prop := (blockK 0 (qwFnBags_0 r))
def stwFnBags_L0 (y2 : (List (List GValue)) × (List (List GValue))) (x6 : (List (List GValue))) (x7 : Int) : St := ⟨[(3, (.osl 3 28 1 (y2.1.map (cSl 3 cGValue)))), (6, (.osl 6 28 1 (x6.map (cSl 3 cGValue)))), (7, (vI x7))], []⟩
abbrev mowFnBags_L0 := fun y2 x6 x7 r => avc Try.prog acwFnBags_L0 (qwFnBags_1 r) (stwFnBags_L0 y2 x6 x7)
def acsSameBag : AC := (.seq (.ops [.asg 4 (kB false)]) (.seq (.ops [.mv 5 0, .call (some 6) 12 [5], .mv 7 1, .call (some 8) 12 [7], .call (some 9) 11 [6, 8], .asg 4 9]) .ret))
theorem trsSameBag : trFn Try.prog 7 = some (acsSameBag, [.mv 0 4], 10) := by kernel_rfl
def qsSameBag (r : Bool) : Exit → St → Prop := retQ [.mv 0 4] fun x _ => x = (fun y => (vB y)) r
def acsSortRows_L1 : AC := (.loop (.seq (.seq (.dops [[], [0], [1], [2], [2], [4, 2], [3, 5, 2], [6, 2], [2], [2], [8, 9, 2], [10, 2], [7, 11, 2, 2], [12, 2], [2, 13]] [.mv 16 5, .bin 17 .gtr 16 (kI 0), .mv 18 17, .g 18 true (.mv 19 3), .g 18 true (.mv 20 5), .g 18 true (.bin 21 .sub 20 (kI 1)), .g 18 true (.ia 22 1 19 21), .g 18 true (.ld 23 1 false 22), .g 18 true (.mv 24 0), .g 18 true (.mv 25 4), .g 18 true (.ia 26 1 24 25), .g 18 true (.ld 27 1 false 26), .g 18 true (.call (some 28) 23 [23, 27]), .g 18 true (.bin 29 .gtr 28 (kI 0)), .pick 30 18 29 (kB false)]) (.cond 30 .skip (.exit 2))) (.block 3 (.ops [.mv 31 5, .bin 32 .sub 31 (kI 1), .asg 5 32]))))
def ccsSortRows_1 : AC := (.seq (.ops [.bsl 33 28 1 [], .mv 34 3, .mv 35 5, .slc 36 1 34 none (some 35) none, .app 37 28 1 24 33 36, .asg 6 37]) (.seq (.ops [.mv 38 6, .mv 39 0, .mv 40 4, .ia 41 1 39 40, .ld 42 1 false 41, .call (some 43) 24 [42], .bsl 44 28 1 [43], .app 45 28 1 24 38 44, .asg 6 45]) (.ops [.mv 46 6, .mv 47 3, .mv 48 5, .slc 49 1 47 (some 48) none none, .app 50 28 1 24 46 49, .asg 3 50])))
def ccsSortRows_2 : AC := (.ops [.mv 12 4, .bin 13 .add 12 (kI 1), .asg 4 13])
def acsSortRows_L0 : AC := (.loop (.seq (.seq (.ops [.mv 8 4, .mv 9 0, .len 10 9, .bin 11 .lss 8 10]) (.cond 11 .skip (.exit 0))) (.seq (.block 1 (.seq (.ops [.mv 14 3, .len 15 14, .asg 5 15]) (.seq (.block 2 acsSortRows_L1) ccsSortRows_1))) ccsSortRows_2)))
def ccsSortRows_0 : AC := (.seq (.ops [.mv 51 3, .asg 2 51]) .ret)
def acsSortRows : AC := (.seq (.ops [.asg 2 (.c (.nil 1))]) (.seq (.ops [.bsl 7 28 1 [], .asg 3 7]) (.seq (.seq (.ops [.asg 4 (kI 0)]) (.block 0 acsSortRows_L0)) ccsSortRows_0)))
theorem trsSortRows : trFn Try.prog 12 = some (acsSortRows, [.mv 0 2], 52) := by kernel_rfl
def qsSortRows (r : (List (List GValue))) : Exit → St → Prop := retQ [.mv 0 2] fun x b => x = (fun (y : (List (List GValue))) => (.osl 2000000 28 1 (y.map (cSl 3 cGValue)))) r ∧ bxHas ((fun (y : (List (List GValue))) => []) r) b
def qsSortRows_0 (r : (List (List GValue))) : Exit → St → Prop := (thenK (wkK (avc Try.prog ccsSortRows_0 (qsSortRows r))) (qsSortRows r))
def qsSortRows_1 (r : (List (List GValue))) : Exit → St → Prop := (blockK 0 (qsSortRows_0 r))
def qsSortRows_2 (r : (List (List GValue))) : Exit → St → Prop := (thenK (avc Try.prog acsSortRows_L0 (qsSortRows_1 r)) (qsSortRows_1 r))
def qsSortRows_3 (r : (List (List GValue))) : Exit → St → Prop := (thenK (wkK (avc Try.prog ccsSortRows_2 (qsSortRows_2 r))) (qsSortRows_2 r))
def qsSortRows_4 (r : (List (List GValue))) : Exit → St → Prop := (blockK 1 (qsSortRows_3 r))
def qsSortRows_5 (r : (List (List GValue))) : Exit → St → Prop := (thenK (wkK (avc Try.prog ccsSortRows_1 (qsSortRows_4 r))) (qsSortRows_4 r))
def qsSortRows_6 (r : (List (List GValue))) : Exit → St → Prop := (blockK 2 (qsSortRows_5 r))
def stsSortRows_L0 (p0 : (List (List GValue))) (x3 : (List (List GValue))) (x4 : Int) : St := ⟨[(0, (.d (.sl 1 (p0.map (cSl 3 cGValue))))), (3, (.osl 3 28 1 (x3.map (cSl 3 cGValue)))), (4, (vI x4))], []⟩
abbrev mosSortRows_L0 := fun p0 x3 x4 r => avc Try.prog acsSortRows_L0 (qsSortRows_1 r) (stsSortRows_L0 p0 x3 x4)
def stsSortRows_L1 (p0 : (List (List GValue))) (x3 : (List (List GValue))) (x4 : Int) (x5 : Int) : St := ⟨[(0, (.d (.sl 1 (p0.map (cSl 3 cGValue))))), (3, (.osl 3 28 1 (x3.map (cSl 3 cGValue)))), (4, (vI x4)), (5, (vI x5))], []⟩
abbrev mosSortRows_L1 := fun p0 x3 x4 x5 r => avc Try.prog acsSortRows_L1 (qsSortRows_6 r) (stsSortRows_L1 p0 x3 x4 x5)
def acsL5Row : AC := (.seq (.ops [.asg 2 (.c (.nil 3))]) (.seq (.ops [.bsl 3 33 3 [], .mv 4 0, .app 5 33 3 32 3 4, .asg 2 5]) .ret))
theorem trsL5Row : trFn Try.prog 24 = some (acsL5Row, [.mv 0 2], 6) := by kernel_rfl
def qsL5Row (r : (List GValue)) : Exit → St → Prop := retQ [.mv 0 2] fun x b => x = (fun (y : (List GValue)) => (.osl 2000000 33 3 (y.map cGValue))) r ∧ bxHas ((fun (y : (List GValue)) => []) r) b
def acsOrderRow_L0 : AC := (.loop (.seq (.seq (.ops [.mv 7 5, .mv 8 0, .len 9 8, .bin 10 .lss 7 9, .mv 11 10, .g 11 true (.mv 12 5), .g 11 true (.mv 13 1), .g 11 true (.len 14 13), .g 11 true (.bin 15 .lss 12 14), .pick 16 11 15 (kB false)]) (.cond 16 .skip (.exit 0))) (.seq (.block 1 (.seq (.dops [[], [], [0, 1], [2], [], [], [4, 5], [6], [3, 7], [8, 8, 0, 1, 2, 3, 4, 5, 6, 7, 8]] [.mv 19 0, .mv 20 5, .ia 21 3 19 20, .ld 22 3 true 21, .mv 23 1, .mv 24 5, .ia 25 3 23 24, .ld 26 3 true 25, .call (some 27) 32 [22, 26], .asg 6 27]) (.seq (.ops [.mv 28 6, .bin 29 .neq 28 (kI 0)]) (.cond 29 (.seq (.ops [.mv 30 6, .asg 4 30]) .ret) .skip)))) (.ops [.mv 17 5, .bin 18 .add 17 (kI 1), .asg 5 18]))))
def ccsOrderRow_0 : AC := (.seq (.block 2 (.seq (.ops [.mv 32 0, .len 33 32, .mv 34 1, .len 35 34, .bin 36 .lss 33 35, .asg 31 36]) (.cond 31 (.seq (.ops [.asg 4 (kI (-1))]) .ret) (.seq (.ops [.mv 38 0, .len 39 38, .mv 40 1, .len 41 40, .bin 42 .gtr 39 41, .asg 37 42]) (.cond 37 (.seq (.ops [.asg 4 (kI 1)]) .ret) .skip))))) (.seq (.ops [.asg 4 (kI 0)]) .ret))
def acsOrderRow : AC := (.seq (.ops [.asg 4 (kI 0)]) (.seq (.seq (.ops [.asg 5 (kI 0)]) (.block 0 acsOrderRow_L0)) ccsOrderRow_0))
theorem trsOrderRow : trFn Try.prog 23 = some (acsOrderRow, [.mv 0 4], 43) := by kernel_rfl
def qsOrderRow (r : Int) : Exit → St → Prop := retQ [.mv 0 4] fun x _ => x = (fun y => (vI y)) r
def qsOrderRow_0 (r : Int) : Exit → St → Prop := (thenK (wkK (avc Try.prog ccsOrderRow_0 (qsOrderRow r))) (qsOrderRow r))
def qsOrderRow_1 (r : Int) : Exit → St → Prop := (blockK 0 (qsOrderRow_0 r))
def stsOrderRow_L0 (p0 : (List GValue)) (p1 : (List GValue)) (x5 : Int) : St := ⟨[(0, (.d (.sl 3 (p0.map cGValue)))), (1, (.d (.sl 3 (p1.map cGValue)))), (5, (vI x5))], []⟩
abbrev mosOrderRow_L0 := fun p0 p1 x5 r => avc Try.prog acsOrderRow_L0 (qsOrderRow_1 r) (stsOrderRow_L0 p0 p1 x5)
def acsOrder : AC := (.seq (.ops [.box 2 33 0, .box 3 33 1, .asg 4 (kI 0)]) (.seq (.block 0 (.seq (.ops [.fa 6 0 2, .ld 7 1 false 6, .fa 8 0 3, .ld 9 1 false 8, .bin 10 .lss 7 9, .asg 5 10]) (.cond 5 (.seq (.ops [.asg 4 (kI (-1))]) .ret) (.seq (.ops [.fa 12 0 2, .ld 13 1 false 12, .fa 14 0 3, .ld 15 1 false 14, .bin 16 .gtr 13 15, .asg 11 16]) (.cond 11 (.seq (.ops [.asg 4 (kI 1)]) .ret) (.seq (.ops [.fa 18 1 2, .ld 19 1 false 18, .fa 20 1 3, .ld 21 1 false 20, .bin 22 .lss 19 21, .asg 17 22]) (.cond 17 (.seq (.ops [.asg 4 (kI (-1))]) .ret) (.seq (.ops [.fa 24 1 2, .ld 25 1 false 24, .fa 26 1 3, .ld 27 1 false 26, .bin 28 .gtr 25 27, .asg 23 28]) (.cond 23 (.seq (.ops [.asg 4 (kI 1)]) .ret) (.seq (.ops [.fa 30 2 2, .ld 31 1 false 30, .fa 32 2 3, .ld 33 1 false 32, .bin 34 .lss 31 33, .asg 29 34]) (.cond 29 (.seq (.ops [.asg 4 (kI (-1))]) .ret) (.seq (.ops [.fa 36 2 2, .ld 37 1 false 36, .fa 38 2 3, .ld 39 1 false 38, .bin 40 .gtr 37 39, .asg 35 40]) (.cond 35 (.seq (.ops [.asg 4 (kI 1)]) .ret) .skip))))))))))))) (.seq (.ops [.asg 4 (kI 0)]) .ret)))
theorem trsOrder : trFn Try.prog 32 = some (acsOrder, [.mv 0 4], 41) := by kernel_rfl
def qsOrder (r : Int) : Exit → St → Prop := retQ [.mv 0 4] fun x _ => x = (fun y => (vI y)) r
def acsSameRows_L0 : AC := (.loop (.seq (.seq (.ops [.mv 11 5, .mv 12 0, .len 13 12, .bin 14 .lss 11 13]) (.cond 14 .skip (.exit 0))) (.seq (.block 1 (.seq (.dops [[], [], [0, 1], [2], [], [], [4, 5], [6], [3, 7], [8]] [.mv 17 0, .mv 18 5, .ia 19 1 17 18, .ld 20 1 false 19, .mv 21 1, .mv 22 5, .ia 23 1 21 22, .ld 24 1 false 23, .call (some 25) 22 [20, 24], .not 26 25]) (.cond 26 (.seq (.ops [.asg 4 (kB false)]) .ret) .skip))) (.ops [.mv 15 5, .bin 16 .add 15 (kI 1), .asg 5 16]))))
def ccsSameRows_0 : AC := (.seq (.ops [.asg 4 (kB true)]) .ret)
def acsSameRows : AC := (.seq (.ops [.asg 4 (kB false)]) (.seq (.seq (.ops [.mv 6 0, .len 7 6, .mv 8 1, .len 9 8, .bin 10 .neq 7 9]) (.cond 10 (.seq (.ops [.asg 4 (kB false)]) .ret) .skip)) (.seq (.seq (.ops [.asg 5 (kI 0)]) (.block 0 acsSameRows_L0)) ccsSameRows_0)))
theorem trsSameRows : trFn Try.prog 11 = some (acsSameRows, [.mv 0 4], 27) := by kernel_rfl
def qsSameRows (r : Bool) : Exit → St → Prop := retQ [.mv 0 4] fun x _ => x = (fun y => (vB y)) r
def qsSameRows_0 (r : Bool) : Exit → St → Prop := (thenK (wkK (avc Try.prog ccsSameRows_0 (qsSameRows r))) (qsSameRows r))
def qsSameRows_1 (r : Bool) : Exit → St → Prop := (blockK 0 (qsSameRows_0 r))
def stsSameRows_L0 (p0 : (List (List GValue))) (p1 : (List (List GValue))) (x5 : Int) : St := ⟨[(0, (.d (.sl 1 (p0.map (cSl 3 cGValue))))), (1, (.d (.sl 1 (p1.map (cSl 3 cGValue))))), (5, (vI x5))], []⟩
abbrev mosSameRows_L0 := fun p0 p1 x5 r => avc Try.prog acsSameRows_L0 (qsSameRows_1 r) (stsSameRows_L0 p0 p1 x5)
def acsL5SameRow_L0 : AC := (.loop (.seq (.seq (.ops [.mv 11 5, .mv 12 0, .len 13 12, .bin 14 .lss 11 13]) (.cond 14 .skip (.exit 0))) (.seq (.block 1 (.seq (.dops [[], [], [0, 1], [2], [], [], [4, 5], [6], [3, 7]] [.mv 17 0, .mv 18 5, .ia 19 3 17 18, .ld 20 3 true 19, .mv 21 1, .mv 22 5, .ia 23 3 21 22, .ld 24 3 true 23, .eqv 25 true [0, 0, 1] 20 24]) (.cond 25 (.seq (.ops [.asg 4 (kB false)]) .ret) .skip))) (.ops [.mv 15 5, .bin 16 .add 15 (kI 1), .asg 5 16]))))
def ccsL5SameRow_0 : AC := (.seq (.ops [.asg 4 (kB true)]) .ret)
def acsL5SameRow : AC := (.seq (.ops [.asg 4 (kB false)]) (.seq (.seq (.ops [.mv 6 0, .len 7 6, .mv 8 1, .len 9 8, .bin 10 .neq 7 9]) (.cond 10 (.seq (.ops [.asg 4 (kB false)]) .ret) .skip)) (.seq (.seq (.ops [.asg 5 (kI 0)]) (.block 0 acsL5SameRow_L0)) ccsL5SameRow_0)))
theorem trsL5SameRow : trFn Try.prog 22 = some (acsL5SameRow, [.mv 0 4], 26) := by kernel_rfl
def qsL5SameRow (r : Bool) : Exit → St → Prop := retQ [.mv 0 4] fun x _ => x = (fun y => (vB y)) r
def qsL5SameRow_0 (r : Bool) : Exit → St → Prop := (thenK (wkK (avc Try.prog ccsL5SameRow_0 (qsL5SameRow r))) (qsL5SameRow r))
def qsL5SameRow_1 (r : Bool) : Exit → St → Prop := (blockK 0 (qsL5SameRow_0 r))
def stsL5SameRow_L0 (p0 : (List GValue)) (p1 : (List GValue)) (x5 : Int) : St := ⟨[(0, (.d (.sl 3 (p0.map cGValue)))), (1, (.d (.sl 3 (p1.map cGValue)))), (5, (vI x5))], []⟩
abbrev mosL5SameRow_L0 := fun p0 p1 x5 r => avc Try.prog acsL5SameRow_L0 (qsL5SameRow_1 r) (stsL5SameRow_L0 p0 p1 x5)
def acwBig : AC := (.seq (.ops [.asg 2 (kB false)]) (.seq (.ops [.mv 3 0, .len 4 3, .bin 5 .gtr 4 (kI 1048576), .asg 2 5]) .ret))
theorem trwBig : trFn Try.prog 4 = some (acwBig, [.mv 0 2], 6) := by kernel_rfl
def qwBig (r : Bool) : Exit → St → Prop := retQ [.mv 0 2] fun x _ => x = (fun y => (vB y)) r
def aciSameBag : AC := (.seq (.ops [.asg 4 (kB false)]) (.seq (.ops [.mv 5 0, .call (some 6) 10 [5], .mv 7 1, .call (some 8) 10 [7], .call (some 9) 8 [6, 8], .asg 4 9]) .ret))
theorem triSameBag : trFn Try.prog 6 = some (aciSameBag, [.mv 0 4], 10) := by kernel_rfl
def qiSameBag (r : Bool) : Exit → St → Prop := retQ [.mv 0 4] fun x _ => x = (fun y => (vB y)) r
def aciSortRows : AC := (.seq (.ops [.asg 2 (.c (.nil 1))]) (.seq (.ops [.mv 4 0, .call (some 5) 19 [4], .asg 3 5]) (.seq (.ops [.mv 6 3, .call (some 7) 20 [6, (.c (.fn 21 []))]]) (.seq (.ops [.mv 8 3, .asg 2 8]) .ret))))
theorem triSortRows : trFn Try.prog 10 = some (aciSortRows, [.mv 0 2], 9) := by kernel_rfl
def qiSortRows (r : (List (List GValue))) : Exit → St → Prop := retQ [.mv 0 2] fun x _ => x = (fun y => (.d (.sl 1 (y.map (cSl 3 cGValue))))) r
def aciCopyRows_X_L0 : AC := (.loop (.seq (.ops [.bin 10 .lss 9 8]) (.seq (.cond 10 .skip (.exit 0)) (.seq (.block 1 (.seq (.ops [.ia 11 1 7 9, .ld 12 1 false 11, .asg 5 12]) (.ops [.mv 13 3, .mv 14 5, .call (some 15) 28 [14], .bsl 16 28 1 [15], .app 17 28 1 24 13 16, .asg 3 17]))) (.ops [.bin 18 .add 9 (kI 1), .mv 9 18])))))
def cciCopyRows_X_0 : AC := (.seq (.ops [.mv 19 3, .asg 2 19]) .ret)
def aciCopyRows_X : AC := (.seq (.ops [.asg 2 (.c (.nil 1))]) (.seq (.ops [.bsl 6 28 1 [], .asg 3 6]) (.seq (.seq (.ops [.mv 7 0, .len 8 7, .mv 9 (kI 0)]) (.block 0 aciCopyRows_X_L0)) cciCopyRows_X_0)))
theorem triCopyRows_X : trFn Try.prog 19 = some (aciCopyRows_X, [.mv 0 2], 20) := by kernel_rfl
def qiCopyRows_X (r : (List (List GValue))) : Exit → St → Prop := retQ [.mv 0 2] fun x b => x = (fun (y : (List (List GValue))) => (.tre 10000000)) r ∧ bxHas ((fun (y : (List (List GValue))) => [(10000000, [(.trs 1 (y.map (cSl 3 cGValue)))])]) r) b
def qiCopyRows_X_0 (r : (List (List GValue))) : Exit → St → Prop := (thenK (wkK (avc Try.prog cciCopyRows_X_0 (qiCopyRows_X r))) (qiCopyRows_X r))
def qiCopyRows_X_1 (r : (List (List GValue))) : Exit → St → Prop := (blockK 0 (qiCopyRows_X_0 r))
def stiCopyRows_X_L0 (p0 : (List (List GValue))) (x9 : Int) (b60014000_0 : (List (List GValue))) : St := ⟨[(3, (.tre 60014000)), (7, (.d (.sl 1 (p0.map (cSl 3 cGValue))))), (8, (vI (p0.length : Int))), (9, (vI x9))], [(60014000, [(.trs 1 (b60014000_0.map (cSl 3 cGValue)))])]⟩
abbrev moiCopyRows_X_L0 := fun p0 x9 b60014000_0 r => avc Try.prog aciCopyRows_X_L0 (qiCopyRows_X_1 r) (stiCopyRows_X_L0 p0 x9 b60014000_0)
def acgSlices_Clone_Simpl_Value_impl_Value : AC := (.seq (.ops [.asg 2 (.c (.nil 3))]) (.seq (.seq (.ops [.mv 3 0, .eqn 4 false 3]) (.cond 4 (.seq (.ops [.asg 2 (.c (.nil 3))]) .ret) .skip)) (.seq (.ops [.bsl 5 33 3 [], .mv 6 0, .app 7 33 3 32 5 6, .asg 2 7]) .ret)))
theorem trgSlices_Clone_Simpl_Value_impl_Value : trFn Try.prog 28 = some (acgSlices_Clone_Simpl_Value_impl_Value, [.mv 0 2], 8) := by kernel_rfl
def qgSlices_Clone_Simpl_Value_impl_Value (r : (List GValue)) : Exit → St → Prop := retQ [.mv 0 2] fun x b => x = (fun (y : (List GValue)) => (.osl 2000000 33 3 (y.map cGValue))) r ∧ bxHas ((fun (y : (List GValue)) => []) r) b
def acgSlices_SortStableFunc_SSimpl_Value_Simpl_Value_iOrderRow : AC := (.ops [.mv 4 0, .mv 5 0, .len 6 5, .mv 7 1, .call (some 8) 29 [4, 6, 7]])
theorem trgSlices_SortStableFunc_SSimpl_Value_Simpl_Value_iOrderRow : trFn Try.prog 20 = some (acgSlices_SortStableFunc_SSimpl_Value_Simpl_Value_iOrderRow, [], 9) := by kernel_rfl
def qgSlices_SortStableFunc_SSimpl_Value_Simpl_Value_iOrderRow (r : (List (List GValue))) : Exit → St → Prop := retQ [] fun x b => x = (fun (y : (List (List GValue))) => (.tup [])) r ∧ bxHas ((fun (y : (List (List GValue))) => [(3000000, [(.trs 1 (y.map (cSl 3 cGValue)))])]) r) b
def acgSlices_stableCmpFunc_Simpl_Value_iOrderRow_L0 : AC := (.loop (.seq (.seq (.ops [.mv 11 8, .mv 12 1, .bin 13 .leq 11 12]) (.cond 13 .skip (.exit 0))) (.block 1 (.seq (.ops [.mv 14 0, .mv 15 7, .mv 16 8, .mv 17 2, .call (some 18) 38 [14, 15, 16, 17]]) (.seq (.ops [.mv 19 8, .asg 7 19]) (.ops [.mv 20 8, .mv 21 6, .bin 22 .add 20 21, .asg 8 22]))))))
def acgSlices_stableCmpFunc_Simpl_Value_iOrderRow_L2 : AC := (.loop (.seq (.seq (.ops [.mv 33 8, .mv 34 1, .bin 35 .leq 33 34]) (.cond 35 .skip (.exit 4))) (.block 5 (.seq (.ops [.mv 36 0, .mv 37 7, .mv 38 7, .mv 39 6, .bin 40 .add 38 39, .mv 41 8, .mv 42 2, .call (some 43) 39 [36, 37, 40, 41, 42]]) (.seq (.ops [.mv 44 8, .asg 7 44]) (.ops [.mv 45 8, .mv 46 6, .bin 47 .mul (kI 2) 46, .bin 48 .add 45 47, .asg 8 48]))))))
def acgSlices_stableCmpFunc_Simpl_Value_iOrderRow_J3 : AC := (.ops [.mv 61 6, .bin 62 .mul 61 (kI 2), .asg 6 62])
def ccgSlices_stableCmpFunc_Simpl_Value_iOrderRow_1 : AC := (.seq (.seq (.ops [.mv 49 7, .mv 50 6, .bin 51 .add 49 50, .asg 9 51]) (.seq (.ops [.mv 52 9, .mv 53 1, .bin 54 .lss 52 53]) (.cond 54 (.ops [.mv 55 0, .mv 56 7, .mv 57 9, .mv 58 1, .mv 59 2, .call (some 60) 39 [55, 56, 57, 58, 59]]) .skip))) acgSlices_stableCmpFunc_Simpl_Value_iOrderRow_J3)
def acgSlices_stableCmpFunc_Simpl_Value_iOrderRow_L1 : AC := (.loop (.seq (.seq (.ops [.mv 28 6, .mv 29 1, .bin 30 .lss 28 29]) (.cond 30 .skip (.exit 2))) (.block 3 (.seq (.ops [.mv 31 6, .bin 32 .mul (kI 2) 31, .asg 7 (kI 0), .asg 8 32]) (.seq (.block 4 acgSlices_stableCmpFunc_Simpl_Value_iOrderRow_L2) ccgSlices_stableCmpFunc_Simpl_Value_iOrderRow_1)))))
def ccgSlices_stableCmpFunc_Simpl_Value_iOrderRow_0 : AC := (.seq (.ops [.mv 23 0, .mv 24 7, .mv 25 1, .mv 26 2, .call (some 27) 38 [23, 24, 25, 26]]) (.block 2 acgSlices_stableCmpFunc_Simpl_Value_iOrderRow_L1))
def acgSlices_stableCmpFunc_Simpl_Value_iOrderRow : AC := (.seq (.ops [.asg 6 (kI 20)]) (.seq (.ops [.mv 10 6, .asg 7 (kI 0), .asg 8 10]) (.seq (.block 0 acgSlices_stableCmpFunc_Simpl_Value_iOrderRow_L0) ccgSlices_stableCmpFunc_Simpl_Value_iOrderRow_0)))
theorem trgSlices_stableCmpFunc_Simpl_Value_iOrderRow : trFn Try.prog 29 = some (acgSlices_stableCmpFunc_Simpl_Value_iOrderRow, [], 63) := by kernel_rfl
def qgSlices_stableCmpFunc_Simpl_Value_iOrderRow (r : (List (List GValue))) : Exit → St → Prop := retQ [] fun x b => x = (fun (y : (List (List GValue))) => (.tup [])) r ∧ bxHas ((fun (y : (List (List GValue))) => [(3000000, [(.trs 1 (y.map (cSl 3 cGValue)))])]) r) b
def qgSlices_stableCmpFunc_Simpl_Value_iOrderRow_0 (r : (List (List GValue))) : Exit → St → Prop := (thenK (wkK (avc Try.prog ccgSlices_stableCmpFunc_Simpl_Value_iOrderRow_0 (qgSlices_stableCmpFunc_Simpl_Value_iOrderRow r))) (qgSlices_stableCmpFunc_Simpl_Value_iOrderRow r))
def qgSlices_stableCmpFunc_Simpl_Value_iOrderRow_1 (r : (List (List GValue))) : Exit → St → Prop := (blockK 0 (qgSlices_stableCmpFunc_Simpl_Value_iOrderRow_0 r))
def qgSlices_stableCmpFunc_Simpl_Value_iOrderRow_2 (r : (List (List GValue))) : Exit → St → Prop := (blockK 2 (qgSlices_stableCmpFunc_Simpl_Value_iOrderRow r))
def qgSlices_stableCmpFunc_Simpl_Value_iOrderRow_3 (r : (List (List GValue))) : Exit → St → Prop := (thenK (avc Try.prog acgSlices_stableCmpFunc_Simpl_Value_iOrderRow_L1 (qgSlices_stableCmpFunc_Simpl_Value_iOrderRow_2 r)) (qgSlices_stableCmpFunc_Simpl_Value_iOrderRow_2 r))
def qgSlices_stableCmpFunc_Simpl_Value_iOrderRow_4 (r : (List (List GValue))) : Exit → St → Prop := (blockK 3 (qgSlices_stableCmpFunc_Simpl_Value_iOrderRow_3 r))
def qgSlices_stableCmpFunc_Simpl_Value_iOrderRow_5 (r : (List (List GValue))) : Exit → St → Prop := (thenK (wkK (avc Try.prog ccgSlices_stableCmpFunc_Simpl_Value_iOrderRow_1 (qgSlices_stableCmpFunc_Simpl_Value_iOrderRow_4 r))) (qgSlices_stableCmpFunc_Simpl_Value_iOrderRow_4 r))
def qgSlices_stableCmpFunc_Simpl_Value_iOrderRow_6 (r : (List (List GValue))) : Exit → St → Prop := (blockK 4 (qgSlices_stableCmpFunc_Simpl_Value_iOrderRow_5 r))
def stgSlices_stableCmpFunc_Simpl_Value_iOrderRow_L0 (p1 : Int) (x7 : Int) (x8 : Int) (b3000000_0 : (List (List GValue))) : St := ⟨[(0, (.tre 3000000)), (1, (vI p1)), (2, (.fn 21 [])), (6, (vI 20)), (7, (vI x7)), (8, (vI x8))], [(3000000, [(.trs 1 (b3000000_0.map (cSl 3 cGValue)))])]⟩
abbrev mogSlices_stableCmpFunc_Simpl_Value_iOrderRow_L0 := fun p1 x7 x8 b3000000_0 r => avc Try.prog acgSlices_stableCmpFunc_Simpl_Value_iOrderRow_L0 (qgSlices_stableCmpFunc_Simpl_Value_iOrderRow_1 r) (stgSlices_stableCmpFunc_Simpl_Value_iOrderRow_L0 p1 x7 x8 b3000000_0)
def stgSlices_stableCmpFunc_Simpl_Value_iOrderRow_L1 (p1 : Int) (x6 : Int) (b3000000_0_3 : (List (List GValue))) : St := ⟨[(0, (.tre 3000000)), (1, (vI p1)), (2, (.fn 21 [])), (6, (vI x6))], [(3000000, [(.trs 1 (b3000000_0_3.map (cSl 3 cGValue)))])]⟩
abbrev mogSlices_stableCmpFunc_Simpl_Value_iOrderRow_L1 := fun p1 x6 b3000000_0_3 r => avc Try.prog acgSlices_stableCmpFunc_Simpl_Value_iOrderRow_L1 (qgSlices_stableCmpFunc_Simpl_Value_iOrderRow_2 r) (stgSlices_stableCmpFunc_Simpl_Value_iOrderRow_L1 p1 x6 b3000000_0_3)
def stgSlices_stableCmpFunc_Simpl_Value_iOrderRow_L2 (p1 : Int) (x6 : Int) (x7_4 : Int) (x8_5 : Int) (b3000000_0_6 : (List (List GValue))) : St := ⟨[(0, (.tre 3000000)), (1, (vI p1)), (2, (.fn 21 [])), (6, (vI x6)), (7, (vI x7_4)), (8, (vI x8_5))], [(3000000, [(.trs 1 (b3000000_0_6.map (cSl 3 cGValue)))])]⟩
abbrev mogSlices_stableCmpFunc_Simpl_Value_iOrderRow_L2 := fun p1 x6 x7_4 x8_5 b3000000_0_6 r => avc Try.prog acgSlices_stableCmpFunc_Simpl_Value_iOrderRow_L2 (qgSlices_stableCmpFunc_Simpl_Value_iOrderRow_6 r) (stgSlices_stableCmpFunc_Simpl_Value_iOrderRow_L2 p1 x6 x7_4 x8_5 b3000000_0_6)
def stgSlices_stableCmpFunc_Simpl_Value_iOrderRow_J3 (p1 : Int) (x6 : Int) (b3000000_0_9 : (List (List GValue))) : St := ⟨[(0, (.tre 3000000)), (1, (vI p1)), (2, (.fn 21 [])), (6, (vI x6))], [(3000000, [(.trs 1 (b3000000_0_9.map (cSl 3 cGValue)))])]⟩
abbrev mogSlices_stableCmpFunc_Simpl_Value_iOrderRow_J3 := fun p1 x6 b3000000_0_9 r => avc Try.prog acgSlices_stableCmpFunc_Simpl_Value_iOrderRow_J3 (qgSlices_stableCmpFunc_Simpl_Value_iOrderRow_4 r) (stgSlices_stableCmpFunc_Simpl_Value_iOrderRow_J3 p1 x6 b3000000_0_9)
def acgSlices_symMergeCmpFunc_Simpl_Value_iOrderRow_L0 : AC := (.loop (.seq (.seq (.ops [.mv 31 10, .mv 32 11, .bin 33 .lss 31 32]) (.cond 33 .skip (.exit 0))) (.block 1 (.seq (.ops [.mv 34 10, .mv 35 11, .bin 36 .add 34 35, .cvi 37 .u64 36, .bin 38 .shr 37 (.c (.d (.i .u64 1))), .cvi 39 .i64 38, .asg 12 39]) (.seq (.dops [[], [], [], [1, 2], [3], [], [], [5, 6], [7], [0, 4, 8], [9]] [.mv 40 4, .mv 41 0, .mv 42 12, .ia 43 1 41 42, .ld 44 1 false 43, .mv 45 0, .mv 46 1, .ia 47 1 45 46, .ld 48 1 false 47, .callv (some 49) 40 [44, 48], .bin 50 .lss 49 (kI 0)]) (.cond 50 (.ops [.mv 51 12, .bin 52 .add 51 (kI 1), .asg 10 52]) (.ops [.mv 53 12, .asg 11 53])))))))
def acgSlices_symMergeCmpFunc_Simpl_Value_iOrderRow_L1 : AC := (.loop (.seq (.seq (.ops [.mv 83 14, .mv 84 15, .bin 85 .lss 83 84]) (.cond 85 .skip (.exit 4))) (.block 5 (.seq (.ops [.mv 86 14, .mv 87 15, .bin 88 .add 86 87, .cvi 89 .u64 88, .bin 90 .shr 89 (.c (.d (.i .u64 1))), .cvi 91 .i64 90, .asg 16 91]) (.seq (.dops [[], [], [], [1, 2], [3], [], [], [5, 6], [7], [0, 4, 8], [9], [10]] [.mv 92 4, .mv 93 0, .mv 94 2, .ia 95 1 93 94, .ld 96 1 false 95, .mv 97 0, .mv 98 16, .ia 99 1 97 98, .ld 100 1 false 99, .callv (some 101) 92 [96, 100], .bin 102 .lss 101 (kI 0), .not 103 102]) (.cond 103 (.ops [.mv 104 16, .bin 105 .add 104 (kI 1), .asg 14 105]) (.ops [.mv 106 16, .asg 15 106])))))))
def acgSlices_symMergeCmpFunc_Simpl_Value_iOrderRow_L5 : AC := (.loop (.seq (.seq (.ops [.mv 149 20, .mv 150 21, .bin 151 .lss 149 150]) (.cond 151 .skip (.exit 8))) (.block 9 (.seq (.ops [.mv 152 20, .mv 153 21, .bin 154 .add 152 153, .cvi 155 .u64 154, .bin 156 .shr 155 (.c (.d (.i .u64 1))), .cvi 157 .i64 156, .asg 23 157]) (.seq (.dops [[], [], [], [], [2, 3], [1, 4], [5], [], [], [7, 8], [9], [0, 6, 10], [11], [12]] [.mv 158 4, .mv 159 0, .mv 160 22, .mv 161 23, .bin 162 .sub 160 161, .ia 163 1 159 162, .ld 164 1 false 163, .mv 165 0, .mv 166 23, .ia 167 1 165 166, .ld 168 1 false 167, .callv (some 169) 158 [164, 168], .bin 170 .lss 169 (kI 0), .not 171 170]) (.cond 171 (.ops [.mv 172 23, .bin 173 .add 172 (kI 1), .asg 20 173]) (.ops [.mv 174 23, .asg 21 174])))))))
def acgSlices_symMergeCmpFunc_Simpl_Value_iOrderRow_J7 : AC := (.seq (.ops [.mv 206 18, .mv 207 24, .bin 208 .lss 206 207, .mv 209 208, .g 209 true (.mv 210 24), .g 209 true (.mv 211 3), .g 209 true (.bin 212 .lss 210 211), .pick 213 209 212 (kB false)]) (.cond 213 (.ops [.mv 214 0, .mv 215 18, .mv 216 24, .mv 217 3, .mv 218 4, .call (some 219) 39 [214, 215, 216, 217, 218]]) .skip))
def acgSlices_symMergeCmpFunc_Simpl_Value_iOrderRow_J6 : AC := (.seq (.seq (.ops [.mv 192 1, .mv 193 20, .bin 194 .lss 192 193, .mv 195 194, .g 195 true (.mv 196 20), .g 195 true (.mv 197 18), .g 195 true (.bin 198 .lss 196 197), .pick 199 195 198 (kB false)]) (.cond 199 (.ops [.mv 200 0, .mv 201 1, .mv 202 20, .mv 203 18, .mv 204 4, .call (some 205) 39 [200, 201, 202, 203, 204]]) .skip)) acgSlices_symMergeCmpFunc_Simpl_Value_iOrderRow_J7)
def ccgSlices_symMergeCmpFunc_Simpl_Value_iOrderRow_4 : AC := (.seq (.ops [.mv 175 19, .mv 176 20, .bin 177 .sub 175 176, .asg 24 177]) (.seq (.seq (.ops [.mv 178 20, .mv 179 2, .bin 180 .lss 178 179, .mv 181 180, .g 181 true (.mv 182 2), .g 181 true (.mv 183 24), .g 181 true (.bin 184 .lss 182 183), .pick 185 181 184 (kB false)]) (.cond 185 (.ops [.mv 186 0, .mv 187 20, .mv 188 2, .mv 189 24, .mv 190 4, .call (some 191) 44 [186, 187, 188, 189, 190]]) .skip)) acgSlices_symMergeCmpFunc_Simpl_Value_iOrderRow_J6))
def acgSlices_symMergeCmpFunc_Simpl_Value_iOrderRow_J2 : AC := (.seq (.ops [.mv 147 19, .bin 148 .sub 147 (kI 1), .asg 22 148]) (.seq (.block 8 acgSlices_symMergeCmpFunc_Simpl_Value_iOrderRow_L5) ccgSlices_symMergeCmpFunc_Simpl_Value_iOrderRow_4))
def acgSlices_symMergeCmpFunc_Simpl_Value_iOrderRow_L3 : AC := (.loop (.seq (.seq (.ops [.mv 55 13, .mv 56 10, .bin 57 .sub 56 (kI 1), .bin 58 .lss 55 57]) (.cond 58 .skip (.exit 2))) (.seq (.block 3 (.dops [[], [], [], [], [3], [], [], [6], [5, 7], [8], [], [], [10, 11], [12], [0, 1, 0, 1, 5, 6, 7, 8, 9, 13], [14, 9, 0, 1, 5, 6, 7, 8, 9, 13], [2, 4, 0, 1, 2, 3, 4, 5, 6, 7, 8, 9, 10, 11, 12, 13, 14, 15], [16, 13, 15, 0, 1, 2, 3, 4, 5, 6, 7, 8, 9, 10, 11, 12, 13, 14, 15]] [.mv 61 0, .mv 62 13, .mv 63 0, .mv 64 13, .bin 65 .add 64 (kI 1), .mv 66 0, .mv 67 13, .bin 68 .add 67 (kI 1), .ia 69 1 66 68, .ld 70 1 false 69, .mv 71 0, .mv 72 13, .ia 73 1 71 72, .ld 74 1 false 73, .ia 75 1 61 62, .st 1 75 70, .ia 76 1 63 65, .st 1 76 74])) (.ops [.mv 59 13, .bin 60 .add 59 (kI 1), .asg 13 60]))))
def acgSlices_symMergeCmpFunc_Simpl_Value_iOrderRow_L4 : AC := (.loop (.seq (.seq (.ops [.mv 108 17, .mv 109 14, .bin 110 .gtr 108 109]) (.cond 110 .skip (.exit 6))) (.seq (.block 7 (.dops [[], [], [], [], [3], [], [], [6], [5, 7], [8], [], [], [10, 11], [12], [0, 1, 0, 1, 5, 6, 7, 8, 9, 13], [14, 9, 0, 1, 5, 6, 7, 8, 9, 13], [2, 4, 0, 1, 2, 3, 4, 5, 6, 7, 8, 9, 10, 11, 12, 13, 14, 15], [16, 13, 15, 0, 1, 2, 3, 4, 5, 6, 7, 8, 9, 10, 11, 12, 13, 14, 15]] [.mv 113 0, .mv 114 17, .mv 115 0, .mv 116 17, .bin 117 .sub 116 (kI 1), .mv 118 0, .mv 119 17, .bin 120 .sub 119 (kI 1), .ia 121 1 118 120, .ld 122 1 false 121, .mv 123 0, .mv 124 17, .ia 125 1 123 124, .ld 126 1 false 125, .ia 127 1 113 114, .st 1 127 122, .ia 128 1 115 117, .st 1 128 126])) (.ops [.mv 111 17, .bin 112 .sub 111 (kI 1), .asg 17 112]))))
def ccgSlices_symMergeCmpFunc_Simpl_Value_iOrderRow_0 : AC := (.seq (.seq (.ops [.mv 54 1, .asg 13 54]) (.block 2 acgSlices_symMergeCmpFunc_Simpl_Value_iOrderRow_L3)) .ret)
def ccgSlices_symMergeCmpFunc_Simpl_Value_iOrderRow_2 : AC := (.seq (.seq (.ops [.mv 107 2, .asg 17 107]) (.block 6 acgSlices_symMergeCmpFunc_Simpl_Value_iOrderRow_L4)) .ret)
def ccgSlices_symMergeCmpFunc_Simpl_Value_iOrderRow_3 : AC := (.seq (.ops [.mv 129 1, .mv 130 3, .bin 131 .add 129 130, .cvi 132 .u64 131, .bin 133 .shr 132 (.c (.d (.i .u64 1))), .cvi 134 .i64 133, .asg 18 134]) (.seq (.ops [.mv 135 18, .mv 136 2, .bin 137 .add 135 136, .asg 19 137]) (.seq (.ops [.asg 20 (kI 0), .asg 21 (kI 0)]) (.seq (.seq (.ops [.mv 138 2, .mv 139 18, .bin 140 .gtr 138 139]) (.cond 140 (.seq (.ops [.mv 141 19, .mv 142 3, .bin 143 .sub 141 142, .asg 20 143]) (.ops [.mv 144 18, .asg 21 144])) (.seq (.ops [.mv 145 1, .asg 20 145]) (.ops [.mv 146 2, .asg 21 146])))) acgSlices_symMergeCmpFunc_Simpl_Value_iOrderRow_J2))))
def ccgSlices_symMergeCmpFunc_Simpl_Value_iOrderRow_1 : AC := (.seq (.seq (.ops [.mv 77 3, .mv 78 2, .bin 79 .sub 77 78, .bin 80 .eql 79 (kI 1)]) (.cond 80 (.seq (.ops [.mv 81 1, .asg 14 81]) (.seq (.ops [.mv 82 2, .asg 15 82]) (.seq (.block 4 acgSlices_symMergeCmpFunc_Simpl_Value_iOrderRow_L1) ccgSlices_symMergeCmpFunc_Simpl_Value_iOrderRow_2))) .skip)) ccgSlices_symMergeCmpFunc_Simpl_Value_iOrderRow_3)
def acgSlices_symMergeCmpFunc_Simpl_Value_iOrderRow : AC := (.seq (.seq (.ops [.mv 25 2, .mv 26 1, .bin 27 .sub 25 26, .bin 28 .eql 27 (kI 1)]) (.cond 28 (.seq (.ops [.mv 29 2, .asg 10 29]) (.seq (.ops [.mv 30 3, .asg 11 30]) (.seq (.block 0 acgSlices_symMergeCmpFunc_Simpl_Value_iOrderRow_L0) ccgSlices_symMergeCmpFunc_Simpl_Value_iOrderRow_0))) .skip)) ccgSlices_symMergeCmpFunc_Simpl_Value_iOrderRow_1)
theorem trgSlices_symMergeCmpFunc_Simpl_Value_iOrderRow : trFn Try.prog 39 = some (acgSlices_symMergeCmpFunc_Simpl_Value_iOrderRow, [], 220) := by kernel_rfl
def qgSlices_symMergeCmpFunc_Simpl_Value_iOrderRow (r : (List (List GValue))) : Exit → St → Prop := retQ [] fun x b => x = (fun (y : (List (List GValue))) => (.tup [])) r ∧ bxHas ((fun (y : (List (List GValue))) => [(3000000, [(.trs 1 (y.map (cSl 3 cGValue)))])]) r) b
def qgSlices_symMergeCmpFunc_Simpl_Value_iOrderRow_0 (r : (List (List GValue))) : Exit → St → Prop := (thenK (wkK (avc Try.prog ccgSlices_symMergeCmpFunc_Simpl_Value_iOrderRow_1 (qgSlices_symMergeCmpFunc_Simpl_Value_iOrderRow r))) (qgSlices_symMergeCmpFunc_Simpl_Value_iOrderRow r))
def qgSlices_symMergeCmpFunc_Simpl_Value_iOrderRow_1 (r : (List (List GValue))) : Exit → St → Prop := (thenK (wkK (avc Try.prog ccgSlices_symMergeCmpFunc_Simpl_Value_iOrderRow_0 (qgSlices_symMergeCmpFunc_Simpl_Value_iOrderRow_0 r))) (qgSlices_symMergeCmpFunc_Simpl_Value_iOrderRow_0 r))
def qgSlices_symMergeCmpFunc_Simpl_Value_iOrderRow_2 (r : (List (List GValue))) : Exit → St → Prop := (blockK 0 (qgSlices_symMergeCmpFunc_Simpl_Value_iOrderRow_1 r))
def qgSlices_symMergeCmpFunc_Simpl_Value_iOrderRow_3 (r : (List (List GValue))) : Exit → St → Prop := (thenK (wkK (avc Try.prog ccgSlices_symMergeCmpFunc_Simpl_Value_iOrderRow_3 (qgSlices_symMergeCmpFunc_Simpl_Value_iOrderRow r))) (qgSlices_symMergeCmpFunc_Simpl_Value_iOrderRow r))
def qgSlices_symMergeCmpFunc_Simpl_Value_iOrderRow_4 (r : (List (List GValue))) : Exit → St → Prop := (thenK (wkK (avc Try.prog ccgSlices_symMergeCmpFunc_Simpl_Value_iOrderRow_2 (qgSlices_symMergeCmpFunc_Simpl_Value_iOrderRow_3 r))) (qgSlices_symMergeCmpFunc_Simpl_Value_iOrderRow_3 r))
def qgSlices_symMergeCmpFunc_Simpl_Value_iOrderRow_5 (r : (List (List GValue))) : Exit → St → Prop := (blockK 4 (qgSlices_symMergeCmpFunc_Simpl_Value_iOrderRow_4 r))
def qgSlices_symMergeCmpFunc_Simpl_Value_iOrderRow_6 (r : (List (List GValue))) : Exit → St → Prop := (thenK (wkK (avc Try.prog .ret (qgSlices_symMergeCmpFunc_Simpl_Value_iOrderRow_0 r))) (qgSlices_symMergeCmpFunc_Simpl_Value_iOrderRow_0 r))
def qgSlices_symMergeCmpFunc_Simpl_Value_iOrderRow_7 (r : (List (List GValue))) : Exit → St → Prop := (blockK 2 (qgSlices_symMergeCmpFunc_Simpl_Value_iOrderRow_6 r))
def qgSlices_symMergeCmpFunc_Simpl_Value_iOrderRow_8 (r : (List (List GValue))) : Exit → St → Prop := (thenK (wkK (avc Try.prog .ret (qgSlices_symMergeCmpFunc_Simpl_Value_iOrderRow_3 r))) (qgSlices_symMergeCmpFunc_Simpl_Value_iOrderRow_3 r))
def qgSlices_symMergeCmpFunc_Simpl_Value_iOrderRow_9 (r : (List (List GValue))) : Exit → St → Prop := (blockK 6 (qgSlices_symMergeCmpFunc_Simpl_Value_iOrderRow_8 r))
def qgSlices_symMergeCmpFunc_Simpl_Value_iOrderRow_10 (r : (List (List GValue))) : Exit → St → Prop := (thenK (wkK (avc Try.prog ccgSlices_symMergeCmpFunc_Simpl_Value_iOrderRow_4 (qgSlices_symMergeCmpFunc_Simpl_Value_iOrderRow r))) (qgSlices_symMergeCmpFunc_Simpl_Value_iOrderRow r))
def qgSlices_symMergeCmpFunc_Simpl_Value_iOrderRow_11 (r : (List (List GValue))) : Exit → St → Prop := (blockK 8 (qgSlices_symMergeCmpFunc_Simpl_Value_iOrderRow_10 r))
def stgSlices_symMergeCmpFunc_Simpl_Value_iOrderRow_L0 (p1 : Int) (p0 : (List (List GValue))) (x10 : Int) (x11 : Int) : St := ⟨[(0, (.tre 3000000)), (1, (vI p1)), (4, (.fn 21 [])), (10, (vI x10)), (11, (vI x11))], [(3000000, [(.trs 1 (p0.map (cSl 3 cGValue)))])]⟩
abbrev mogSlices_symMergeCmpFunc_Simpl_Value_iOrderRow_L0 := fun p1 p0 x10 x11 r => avc Try.prog acgSlices_symMergeCmpFunc_Simpl_Value_iOrderRow_L0 (qgSlices_symMergeCmpFunc_Simpl_Value_iOrderRow_2 r) (stgSlices_symMergeCmpFunc_Simpl_Value_iOrderRow_L0 p1 p0 x10 x11)
def stgSlices_symMergeCmpFunc_Simpl_Value_iOrderRow_L1 (p2 : Int) (p0 : (List (List GValue))) (x14 : Int) (x15 : Int) : St := ⟨[(0, (.tre 3000000)), (2, (vI p2)), (4, (.fn 21 [])), (14, (vI x14)), (15, (vI x15))], [(3000000, [(.trs 1 (p0.map (cSl 3 cGValue)))])]⟩
abbrev mogSlices_symMergeCmpFunc_Simpl_Value_iOrderRow_L1 := fun p2 p0 x14 x15 r => avc Try.prog acgSlices_symMergeCmpFunc_Simpl_Value_iOrderRow_L1 (qgSlices_symMergeCmpFunc_Simpl_Value_iOrderRow_5 r) (stgSlices_symMergeCmpFunc_Simpl_Value_iOrderRow_L1 p2 p0 x14 x15)
def stgSlices_symMergeCmpFunc_Simpl_Value_iOrderRow_J2 (p1 : Int) (p2 : Int) (p3 : Int) (p0 : (List (List GValue))) (x20 : Int) (x21 : Int) : St := ⟨[(0, (.tre 3000000)), (1, (vI p1)), (2, (vI p2)), (3, (vI p3)), (4, (.fn 21 [])), (18, (vI (IntKind.wrap .i64 (Int.fdiv (IntKind.wrap .u64 (IntKind.wrap .i64 (p1 + p3))) (2 ^ 1))))), (19, (vI (IntKind.wrap .i64 ((IntKind.wrap .i64 (Int.fdiv (IntKind.wrap .u64 (IntKind.wrap .i64 (p1 + p3))) (2 ^ 1))) + p2)))), (20, (vI x20)), (21, (vI x21))], [(3000000, [(.trs 1 (p0.map (cSl 3 cGValue)))])]⟩
abbrev mogSlices_symMergeCmpFunc_Simpl_Value_iOrderRow_J2 := fun p1 p2 p3 p0 x20 x21 r => avc Try.prog acgSlices_symMergeCmpFunc_Simpl_Value_iOrderRow_J2 (qgSlices_symMergeCmpFunc_Simpl_Value_iOrderRow r) (stgSlices_symMergeCmpFunc_Simpl_Value_iOrderRow_J2 p1 p2 p3 p0 x20 x21)
def stgSlices_symMergeCmpFunc_Simpl_Value_iOrderRow_L3 (x10 : Int) (x13 : Int) (b3000000_0 : (List (List GValue))) : St := ⟨[(0, (.tre 3000000)), (10, (vI x10)), (13, (vI x13))], [(3000000, [(.trs 1 (b3000000_0.map (cSl 3 cGValue)))])]⟩
abbrev mogSlices_symMergeCmpFunc_Simpl_Value_iOrderRow_L3 := fun x10 x13 b3000000_0 r => avc Try.prog acgSlices_symMergeCmpFunc_Simpl_Value_iOrderRow_L3 (qgSlices_symMergeCmpFunc_Simpl_Value_iOrderRow_7 r) (stgSlices_symMergeCmpFunc_Simpl_Value_iOrderRow_L3 x10 x13 b3000000_0)
def stgSlices_symMergeCmpFunc_Simpl_Value_iOrderRow_L4 (x14 : Int) (x17 : Int) (b3000000_0_11 : (List (List GValue))) : St := ⟨[(0, (.tre 3000000)), (14, (vI x14)), (17, (vI x17))], [(3000000, [(.trs 1 (b3000000_0_11.map (cSl 3 cGValue)))])]⟩
abbrev mogSlices_symMergeCmpFunc_Simpl_Value_iOrderRow_L4 := fun x14 x17 b3000000_0_11 r => avc Try.prog acgSlices_symMergeCmpFunc_Simpl_Value_iOrderRow_L4 (qgSlices_symMergeCmpFunc_Simpl_Value_iOrderRow_9 r) (stgSlices_symMergeCmpFunc_Simpl_Value_iOrderRow_L4 x14 x17 b3000000_0_11)
def stgSlices_symMergeCmpFunc_Simpl_Value_iOrderRow_L5 (p1 : Int) (p2 : Int) (p3 : Int) (p0 : (List (List GValue))) (x20_12 : Int) (x21_13 : Int) : St := ⟨[(0, (.tre 3000000)), (1, (vI p1)), (2, (vI p2)), (3, (vI p3)), (4, (.fn 21 [])), (18, (vI (IntKind.wrap .i64 (Int.fdiv (IntKind.wrap .u64 (IntKind.wrap .i64 (p1 + p3))) (2 ^ 1))))), (19, (vI (IntKind.wrap .i64 ((IntKind.wrap .i64 (Int.fdiv (IntKind.wrap .u64 (IntKind.wrap .i64 (p1 + p3))) (2 ^ 1))) + p2)))), (20, (vI x20_12)), (21, (vI x21_13)), (22, (vI (IntKind.wrap .i64 ((IntKind.wrap .i64 ((IntKind.wrap .i64 (Int.fdiv (IntKind.wrap .u64 (IntKind.wrap .i64 (p1 + p3))) (2 ^ 1))) + p2)) - 1))))], [(3000000, [(.trs 1 (p0.map (cSl 3 cGValue)))])]⟩
abbrev mogSlices_symMergeCmpFunc_Simpl_Value_iOrderRow_L5 := fun p1 p2 p3 p0 x20_12 x21_13 r => avc Try.prog acgSlices_symMergeCmpFunc_Simpl_Value_iOrderRow_L5 (qgSlices_symMergeCmpFunc_Simpl_Value_iOrderRow_11 r) (stgSlices_symMergeCmpFunc_Simpl_Value_iOrderRow_L5 p1 p2 p3 p0 x20_12 x21_13)
def stgSlices_symMergeCmpFunc_Simpl_Value_iOrderRow_J6 (p1 : Int) (p3 : Int) (x20_12 : Int) (p2 : Int) (b3000000_0_37 : (List (List GValue))) : St := ⟨[(0, (.tre 3000000)), (1, (vI p1)), (3, (vI p3)), (4, (.fn 21 [])), (18, (vI (IntKind.wrap .i64 (Int.fdiv (IntKind.wrap .u64 (IntKind.wrap .i64 (p1 + p3))) (2 ^ 1))))), (20, (vI x20_12)), (24, (vI (IntKind.wrap .i64 ((IntKind.wrap .i64 ((IntKind.wrap .i64 (Int.fdiv (IntKind.wrap .u64 (IntKind.wrap .i64 (p1 + p3))) (2 ^ 1))) + p2)) - x20_12))))], [(3000000, [(.trs 1 (b3000000_0_37.map (cSl 3 cGValue)))])]⟩
abbrev mogSlices_symMergeCmpFunc_Simpl_Value_iOrderRow_J6 := fun p1 p3 x20_12 p2 b3000000_0_37 r => avc Try.prog acgSlices_symMergeCmpFunc_Simpl_Value_iOrderRow_J6 (qgSlices_symMergeCmpFunc_Simpl_Value_iOrderRow r) (stgSlices_symMergeCmpFunc_Simpl_Value_iOrderRow_J6 p1 p3 x20_12 p2 b3000000_0_37)
def stgSlices_symMergeCmpFunc_Simpl_Value_iOrderRow_J7 (p3 : Int) (p1 : Int) (p2 : Int) (x20_12 : Int) (b3000000_0_40 : (List (List GValue))) : St := ⟨[(0, (.tre 3000000)), (3, (vI p3)), (4, (.fn 21 [])), (18, (vI (IntKind.wrap .i64 (Int.fdiv (IntKind.wrap .u64 (IntKind.wrap .i64 (p1 + p3))) (2 ^ 1))))), (24, (vI (IntKind.wrap .i64 ((IntKind.wrap .i64 ((IntKind.wrap .i64 (Int.fdiv (IntKind.wrap .u64 (IntKind.wrap .i64 (p1 + p3))) (2 ^ 1))) + p2)) - x20_12))))], [(3000000, [(.trs 1 (b3000000_0_40.map (cSl 3 cGValue)))])]⟩
abbrev mogSlices_symMergeCmpFunc_Simpl_Value_iOrderRow_J7 := fun p3 p1 p2 x20_12 b3000000_0_40 r => avc Try.prog acgSlices_symMergeCmpFunc_Simpl_Value_iOrderRow_J7 (qgSlices_symMergeCmpFunc_Simpl_Value_iOrderRow r) (stgSlices_symMergeCmpFunc_Simpl_Value_iOrderRow_J7 p3 p1 p2 x20_12 b3000000_0_40)
def aciOrderRow : AC := (.seq (.ops [.asg 4 (kI 0)]) (.seq (.ops [.mv 5 0, .mv 6 1, .call (some 7) 30 [5, 6, (.c (.fn 31 []))], .asg 4 7]) .ret))
theorem triOrderRow : trFn Try.prog 21 = some (aciOrderRow, [.mv 0 4], 8) := by kernel_rfl
def qiOrderRow (r : Int) : Exit → St → Prop := retQ [.mv 0 4] fun x _ => x = (fun y => (vI y)) r
def acgSlices_CompareFunc_Simpl_Value_Simpl_Value_impl_Value_impl_Value_iOrder_L0 : AC := (.loop (.seq (.ops [.bin 14 .lss 13 12]) (.seq (.cond 14 .skip (.exit 0)) (.seq (.block 1 (.seq (.ops [.mv 15 13, .ia 16 3 11 13, .ld 17 3 true 16, .alc 8 [(.d (.i .i64 0)), (.d (.i .i64 0)), (.d (.s (bs [])))], .asg 7 15, .st 3 8 17]) (.seq (.seq (.ops [.mv 18 7, .mv 19 1, .len 20 19, .bin 21 .geq 18 20]) (.cond 21 (.seq (.ops [.asg 6 (kI 1)]) .ret) .skip)) (.seq (.ops [.mv 22 1, .mv 23 7, .ia 24 3 22 23, .ld 25 3 true 24, .alc 9 [(.d (.i .i64 0)), (.d (.i .i64 0)), (.d (.s (bs [])))], .st 3 9 25]) (.seq (.ops [.mv 26 2, .ld 27 3 true 8, .ld 28 3 true 9, .callv (some 29) 26 [27, 28], .asg 10 29]) (.seq (.ops [.mv 30 10, .bin 31 .neq 30 (kI 0)]) (.cond 31 (.seq (.ops [.mv 32 10, .asg 6 32]) .ret) .skip))))))) (.ops [.bin 33 .add 13 (kI 1), .mv 13 33])))))
def ccgSlices_CompareFunc_Simpl_Value_Simpl_Value_impl_Value_impl_Value_iOrder_0 : AC := (.seq (.seq (.ops [.mv 34 0, .len 35 34, .mv 36 1, .len 37 36, .bin 38 .lss 35 37]) (.cond 38 (.seq (.ops [.asg 6 (kI (-1))]) .ret) .skip)) (.seq (.ops [.asg 6 (kI 0)]) .ret))
def acgSlices_CompareFunc_Simpl_Value_Simpl_Value_impl_Value_impl_Value_iOrder : AC := (.seq (.ops [.asg 6 (kI 0)]) (.seq (.seq (.ops [.mv 11 0, .len 12 11, .mv 13 (kI 0)]) (.block 0 acgSlices_CompareFunc_Simpl_Value_Simpl_Value_impl_Value_impl_Value_iOrder_L0)) ccgSlices_CompareFunc_Simpl_Value_Simpl_Value_impl_Value_impl_Value_iOrder_0))
theorem trgSlices_CompareFunc_Simpl_Value_Simpl_Value_impl_Value_impl_Value_iOrder : trFn Try.prog 30 = some (acgSlices_CompareFunc_Simpl_Value_Simpl_Value_impl_Value_impl_Value_iOrder, [.mv 0 6], 39) := by kernel_rfl
def qgSlices_CompareFunc_Simpl_Value_Simpl_Value_impl_Value_impl_Value_iOrder (r : Int) : Exit → St → Prop := retQ [.mv 0 6] fun x _ => x = (fun y => (vI y)) r
def qgSlices_CompareFunc_Simpl_Value_Simpl_Value_impl_Value_impl_Value_iOrder_0 (r : Int) : Exit → St → Prop := (thenK (wkK (avc Try.prog ccgSlices_CompareFunc_Simpl_Value_Simpl_Value_impl_Value_impl_Value_iOrder_0 (qgSlices_CompareFunc_Simpl_Value_Simpl_Value_impl_Value_impl_Value_iOrder r))) (qgSlices_CompareFunc_Simpl_Value_Simpl_Value_impl_Value_impl_Value_iOrder r))
def qgSlices_CompareFunc_Simpl_Value_Simpl_Value_impl_Value_impl_Value_iOrder_1 (r : Int) : Exit → St → Prop := (blockK 0 (qgSlices_CompareFunc_Simpl_Value_Simpl_Value_impl_Value_impl_Value_iOrder_0 r))
def stgSlices_CompareFunc_Simpl_Value_Simpl_Value_impl_Value_impl_Value_iOrder_L0 (p0 : (List GValue)) (p1 : (List GValue)) (x13 : Int) : St := ⟨[(0, (.d (.sl 3 (p0.map cGValue)))), (1, (.d (.sl 3 (p1.map cGValue)))), (2, (.fn 31 [])), (11, (.d (.sl 3 (p0.map cGValue)))), (12, (vI (p0.length : Int))), (13, (vI x13))], []⟩
abbrev mogSlices_CompareFunc_Simpl_Value_Simpl_Value_impl_Value_impl_Value_iOrder_L0 := fun p0 p1 x13 r => avc Try.prog acgSlices_CompareFunc_Simpl_Value_Simpl_Value_impl_Value_impl_Value_iOrder_L0 (qgSlices_CompareFunc_Simpl_Value_Simpl_Value_impl_Value_impl_Value_iOrder_1 r) (stgSlices_CompareFunc_Simpl_Value_Simpl_Value_impl_Value_impl_Value_iOrder_L0 p0 p1 x13)
def aciOrder : AC := (.seq (.ops [.box 2 33 0, .box 3 33 1, .asg 4 (kI 0)]) (.seq (.dops [[], [0], [], [2], [1, 3], [], [5], [], [7], [6, 8, 4], [], [10], [], [12], [11, 13, 9], [4, 9, 14], [15, 14], [16, 16, 0, 1, 2, 3, 4, 5, 6, 7, 8, 9, 10, 11, 12, 13, 14, 15, 16]] [.fa 5 0 2, .ld 6 1 false 5, .fa 7 0 3, .ld 8 1 false 7, .call (some 9) 41 [6, 8], .fa 10 1 2, .ld 11 1 false 10, .fa 12 1 3, .ld 13 1 false 12, .call (some 14) 41 [11, 13], .fa 15 2 2, .ld 16 1 false 15, .fa 17 2 3, .ld 18 1 false 17, .call (some 19) 42 [16, 18], .bsl 20 3 1 [9, 14, 19], .call (some 21) 40 [20], .asg 4 21]) .ret))
theorem triOrder : trFn Try.prog 31 = some (aciOrder, [.mv 0 4], 22) := by kernel_rfl
def qiOrder (r : Int) : Exit → St → Prop := retQ [.mv 0 4] fun x _ => x = (fun y => (vI y)) r
def acgCmp_Or_int_L0 : AC := (.loop (.seq (.ops [.bin 9 .lss 8 7]) (.seq (.cond 9 .skip (.exit 0)) (.seq (.block 1 (.seq (.ops [.ia 10 1 6 8, .ld 11 1 false 10, .asg 5 11]) (.seq (.ops [.mv 12 5, .mv 13 3, .bin 14 .neq 12 13]) (.cond 14 (.seq (.ops [.mv 15 5, .asg 2 15]) .ret) .skip)))) (.ops [.bin 16 .add 8 (kI 1), .mv 8 16])))))
def ccgCmp_Or_int_0 : AC := (.seq (.ops [.mv 17 3, .asg 2 17]) .ret)
def acgCmp_Or_int : AC := (.seq (.ops [.asg 2 (kI 0)]) (.seq (.ops [.asg 3 (kI 0)]) (.seq (.seq (.ops [.mv 6 0, .len 7 6, .mv 8 (kI 0)]) (.block 0 acgCmp_Or_int_L0)) ccgCmp_Or_int_0)))
theorem trgCmp_Or_int : trFn Try.prog 40 = some (acgCmp_Or_int, [.mv 0 2], 18) := by kernel_rfl
def qgCmp_Or_int (r : Int) : Exit → St → Prop := retQ [.mv 0 2] fun x _ => x = (fun y => (vI y)) r
def qgCmp_Or_int_0 (r : Int) : Exit → St → Prop := (thenK (wkK (avc Try.prog ccgCmp_Or_int_0 (qgCmp_Or_int r))) (qgCmp_Or_int r))
def qgCmp_Or_int_1 (r : Int) : Exit → St → Prop := (blockK 0 (qgCmp_Or_int_0 r))
def stgCmp_Or_int_L0 (p0 : (List Int)) (x8 : Int) : St := ⟨[(3, (vI 0)), (6, (.d (.sl 1 (p0.map cI)))), (7, (vI (p0.length : Int))), (8, (vI x8))], []⟩
abbrev mogCmp_Or_int_L0 := fun p0 x8 r => avc Try.prog acgCmp_Or_int_L0 (qgCmp_Or_int_1 r) (stgCmp_Or_int_L0 p0 x8)
def acgCmp_Compare_string : AC := (.seq (.ops [.asg 4 (kI 0)]) (.seq (.ops [.mv 7 0, .call (some 8) 46 [7], .asg 5 8]) (.seq (.ops [.mv 9 1, .call (some 10) 46 [9], .asg 6 10]) (.seq (.seq (.ops [.mv 11 5]) (.cond 11 (.seq (.seq (.ops [.mv 12 6]) (.cond 12 (.seq (.ops [.asg 4 (kI 0)]) .ret) .skip)) (.seq (.ops [.asg 4 (kI (-1))]) .ret)) .skip)) (.seq (.seq (.ops [.mv 13 6]) (.cond 13 (.seq (.ops [.asg 4 (kI 1)]) .ret) .skip)) (.seq (.seq (.ops [.mv 14 0, .mv 15 1, .bin 16 .lss 14 15]) (.cond 16 (.seq (.ops [.asg 4 (kI (-1))]) .ret) .skip)) (.seq (.seq (.ops [.mv 17 0, .mv 18 1, .bin 19 .gtr 17 18]) (.cond 19 (.seq (.ops [.asg 4 (kI 1)]) .ret) .skip)) (.seq (.ops [.asg 4 (kI 0)]) .ret))))))))
theorem trgCmp_Compare_string : trFn Try.prog 42 = some (acgCmp_Compare_string, [.mv 0 4], 20) := by kernel_rfl
def qgCmp_Compare_string (r : Int) : Exit → St → Prop := retQ [.mv 0 4] fun x _ => x = (fun y => (vI y)) r
def acgCmp_isNaN_string : AC := (.seq (.ops [.asg 2 (kB false)]) (.seq (.ops [.mv 3 0, .mv 4 0, .bin 5 .neq 3 4, .asg 2 5]) .ret))
theorem trgCmp_isNaN_string : trFn Try.prog 46 = some (acgCmp_isNaN_string, [.mv 0 2], 6) := by kernel_rfl
def qgCmp_isNaN_string (r : Bool) : Exit → St → Prop := retQ [.mv 0 2] fun x _ => x = (fun y => (vB y)) r
def acgCmp_Compare_int : AC := (.seq (.ops [.asg 4 (kI 0)]) (.seq (.ops [.mv 7 0, .call (some 8) 45 [7], .asg 5 8]) (.seq (.ops [.mv 9 1, .call (some 10) 45 [9], .asg 6 10]) (.seq (.seq (.ops [.mv 11 5]) (.cond 11 (.seq (.seq (.ops [.mv 12 6]) (.cond 12 (.seq (.ops [.asg 4 (kI 0)]) .ret) .skip)) (.seq (.ops [.asg 4 (kI (-1))]) .ret)) .skip)) (.seq (.seq (.ops [.mv 13 6]) (.cond 13 (.seq (.ops [.asg 4 (kI 1)]) .ret) .skip)) (.seq (.seq (.ops [.mv 14 0, .mv 15 1, .bin 16 .lss 14 15]) (.cond 16 (.seq (.ops [.asg 4 (kI (-1))]) .ret) .skip)) (.seq (.seq (.ops [.mv 17 0, .mv 18 1, .bin 19 .gtr 17 18]) (.cond 19 (.seq (.ops [.asg 4 (kI 1)]) .ret) .skip)) (.seq (.ops [.asg 4 (kI 0)]) .ret))))))))
theorem trgCmp_Compare_int : trFn Try.prog 41 = some (acgCmp_Compare_int, [.mv 0 4], 20) := by kernel_rfl
def qgCmp_Compare_int (r : Int) : Exit → St → Prop := retQ [.mv 0 4] fun x _ => x = (fun y => (vI y)) r
def acgCmp_isNaN_int : AC := (.seq (.ops [.asg 2 (kB false)]) (.seq (.ops [.mv 3 0, .mv 4 0, .bin 5 .neq 3 4, .asg 2 5]) .ret))
theorem trgCmp_isNaN_int : trFn Try.prog 45 = some (acgCmp_isNaN_int, [.mv 0 2], 6) := by kernel_rfl
def qgCmp_isNaN_int (r : Bool) : Exit → St → Prop := retQ [.mv 0 2] fun x _ => x = (fun y => (vB y)) r
def acgSlices_rotateCmpFunc_Simpl_Value_iOrderRow_L0 : AC := (.loop (.seq (.seq (.ops [.mv 18 10, .mv 19 11, .bin 20 .neq 18 19]) (.cond 20 .skip (.exit 0))) (.block 1 (.seq (.ops [.mv 21 10, .mv 22 11, .bin 23 .gtr 21 22]) (.cond 23 (.seq (.ops [.mv 24 0, .mv 25 2, .mv 26 10, .bin 27 .sub 25 26, .mv 28 2, .mv 29 11, .mv 30 4, .call (some 31) 47 [24, 27, 28, 29, 30]]) (.ops [.mv 32 10, .mv 33 11, .bin 34 .sub 32 33, .asg 10 34])) (.seq (.ops [.mv 35 0, .mv 36 2, .mv 37 10, .bin 38 .sub 36 37, .mv 39 2, .mv 40 11, .bin 41 .add 39 40, .mv 42 10, .bin 43 .sub 41 42, .mv 44 10, .mv 45 4, .call (some 46) 47 [35, 38, 43, 44, 45]]) (.ops [.mv 47 11, .mv 48 10, .bin 49 .sub 47 48, .asg 11 49])))))))
def ccgSlices_rotateCmpFunc_Simpl_Value_iOrderRow_0 : AC := (.ops [.mv 50 0, .mv 51 2, .mv 52 10, .bin 53 .sub 51 52, .mv 54 2, .mv 55 10, .mv 56 4, .call (some 57) 47 [50, 53, 54, 55, 56]])
def acgSlices_rotateCmpFunc_Simpl_Value_iOrderRow : AC := (.seq (.ops [.mv 12 2, .mv 13 1, .bin 14 .sub 12 13, .asg 10 14]) (.seq (.ops [.mv 15 3, .mv 16 2, .bin 17 .sub 15 16, .asg 11 17]) (.seq (.block 0 acgSlices_rotateCmpFunc_Simpl_Value_iOrderRow_L0) ccgSlices_rotateCmpFunc_Simpl_Value_iOrderRow_0)))
theorem trgSlices_rotateCmpFunc_Simpl_Value_iOrderRow : trFn Try.prog 44 = some (acgSlices_rotateCmpFunc_Simpl_Value_iOrderRow, [], 58) := by kernel_rfl
def qgSlices_rotateCmpFunc_Simpl_Value_iOrderRow (r : (List (List GValue))) : Exit → St → Prop := retQ [] fun x b => x = (fun (y : (List (List GValue))) => (.tup [])) r ∧ bxHas ((fun (y : (List (List GValue))) => [(3000000, [(.trs 1 (y.map (cSl 3 cGValue)))])]) r) b
def qgSlices_rotateCmpFunc_Simpl_Value_iOrderRow_0 (r : (List (List GValue))) : Exit → St → Prop := (thenK (wkK (avc Try.prog ccgSlices_rotateCmpFunc_Simpl_Value_iOrderRow_0 (qgSlices_rotateCmpFunc_Simpl_Value_iOrderRow r))) (qgSlices_rotateCmpFunc_Simpl_Value_iOrderRow r))
def qgSlices_rotateCmpFunc_Simpl_Value_iOrderRow_1 (r : (List (List GValue))) : Exit → St → Prop := (blockK 0 (qgSlices_rotateCmpFunc_Simpl_Value_iOrderRow_0 r))
def stgSlices_rotateCmpFunc_Simpl_Value_iOrderRow_L0 (p2 : Int) (x10 : Int) (x11 : Int) (b3000000_0 : (List (List GValue))) : St := ⟨[(0, (.tre 3000000)), (2, (vI p2)), (4, (.fn 21 [])), (10, (vI x10)), (11, (vI x11))], [(3000000, [(.trs 1 (b3000000_0.map (cSl 3 cGValue)))])]⟩
abbrev mogSlices_rotateCmpFunc_Simpl_Value_iOrderRow_L0 := fun p2 x10 x11 b3000000_0 r => avc Try.prog acgSlices_rotateCmpFunc_Simpl_Value_iOrderRow_L0 (qgSlices_rotateCmpFunc_Simpl_Value_iOrderRow_1 r) (stgSlices_rotateCmpFunc_Simpl_Value_iOrderRow_L0 p2 x10 x11 b3000000_0)
def acgSlices_swapRangeCmpFunc_Simpl_Value_iOrderRow_L0 : AC := (.loop (.seq (.seq (.ops [.mv 11 10, .mv 12 3, .bin 13 .lss 11 12]) (.cond 13 .skip (.exit 0))) (.seq (.block 1 (.dops [[], [], [], [1, 2], [], [], [], [5, 6], [], [], [], [9, 10], [8, 11], [12], [], [], [], [15, 16], [14, 17], [18], [0, 3, 0, 1, 2, 3, 8, 9, 10, 11, 12, 13, 19], [20, 13, 0, 1, 2, 3, 8, 9, 10, 11, 12, 13, 19], [4, 7, 0, 1, 2, 3, 4, 5, 6, 7, 8, 9, 10, 11, 12, 13, 14, 15, 16, 17, 18, 19, 20, 21], [22, 19, 21, 0, 1, 2, 3, 4, 5, 6, 7, 8, 9, 10, 11, 12, 13, 14, 15, 16, 17, 18, 19, 20, 21]] [.mv 16 0, .mv 17 1, .mv 18 10, .bin 19 .add 17 18, .mv 20 0, .mv 21 2, .mv 22 10, .bin 23 .add 21 22, .mv 24 0, .mv 25 2, .mv 26 10, .bin 27 .add 25 26, .ia 28 1 24 27, .ld 29 1 false 28, .mv 30 0, .mv 31 1, .mv 32 10, .bin 33 .add 31 32, .ia 34 1 30 33, .ld 35 1 false 34, .ia 36 1 16 19, .st 1 36 29, .ia 37 1 20 23, .st 1 37 35])) (.ops [.mv 14 10, .bin 15 .add 14 (kI 1), .asg 10 15]))))
def acgSlices_swapRangeCmpFunc_Simpl_Value_iOrderRow : AC := (.seq (.ops [.asg 10 (kI 0)]) (.block 0 acgSlices_swapRangeCmpFunc_Simpl_Value_iOrderRow_L0))
theorem trgSlices_swapRangeCmpFunc_Simpl_Value_iOrderRow : trFn Try.prog 47 = some (acgSlices_swapRangeCmpFunc_Simpl_Value_iOrderRow, [], 38) := by kernel_rfl
def qgSlices_swapRangeCmpFunc_Simpl_Value_iOrderRow (r : (List (List GValue))) : Exit → St → Prop := retQ [] fun x b => x = (fun (y : (List (List GValue))) => (.tup [])) r ∧ bxHas ((fun (y : (List (List GValue))) => [(3000000, [(.trs 1 (y.map (cSl 3 cGValue)))])]) r) b
def qgSlices_swapRangeCmpFunc_Simpl_Value_iOrderRow_0 (r : (List (List GValue))) : Exit → St → Prop := (blockK 0 (qgSlices_swapRangeCmpFunc_Simpl_Value_iOrderRow r))
def stgSlices_swapRangeCmpFunc_Simpl_Value_iOrderRow_L0 (p1 : Int) (p2 : Int) (p3 : Int) (x10 : Int) (b3000000_0 : (List (List GValue))) : St := ⟨[(0, (.tre 3000000)), (1, (vI p1)), (2, (vI p2)), (3, (vI p3)), (10, (vI x10))], [(3000000, [(.trs 1 (b3000000_0.map (cSl 3 cGValue)))])]⟩
abbrev mogSlices_swapRangeCmpFunc_Simpl_Value_iOrderRow_L0 := fun p1 p2 p3 x10 b3000000_0 r => avc Try.prog acgSlices_swapRangeCmpFunc_Simpl_Value_iOrderRow_L0 (qgSlices_swapRangeCmpFunc_Simpl_Value_iOrderRow_0 r) (stgSlices_swapRangeCmpFunc_Simpl_Value_iOrderRow_L0 p1 p2 p3 x10 b3000000_0)
def acgSlices_insertionSortCmpFunc_Simpl_Value_iOrderRow_L1 : AC := (.loop (.seq (.seq (.dops [[], [], [0, 1], [2], [3], [3], [3], [5, 6, 3], [7, 3], [3], [3], [10, 3], [9, 11, 3], [12, 3], [4, 8, 13, 3, 3], [14, 3], [3, 15]] [.mv 18 9, .mv 19 1, .bin 20 .gtr 18 19, .mv 21 20, .g 21 true (.mv 22 3), .g 21 true (.mv 23 0), .g 21 true (.mv 24 9), .g 21 true (.ia 25 1 23 24), .g 21 true (.ld 26 1 false 25), .g 21 true (.mv 27 0), .g 21 true (.mv 28 9), .g 21 true (.bin 29 .sub 28 (kI 1)), .g 21 true (.ia 30 1 27 29), .g 21 true (.ld 31 1 false 30), .g 21 true (.callv (some 32) 22 [26, 31]), .g 21 true (.bin 33 .lss 32 (kI 0)), .pick 34 21 33 (kB false)]) (.cond 34 .skip (.exit 2))) (.seq (.block 3 (.dops [[], [], [], [], [3], [], [], [6], [5, 7], [8], [], [], [10, 11], [12], [0, 1, 0, 1, 5, 6, 7, 8, 9, 13], [14, 9, 0, 1, 5, 6, 7, 8, 9, 13], [2, 4, 0, 1, 2, 3, 4, 5, 6, 7, 8, 9, 10, 11, 12, 13, 14, 15], [16, 13, 15, 0, 1, 2, 3, 4, 5, 6, 7, 8, 9, 10, 11, 12, 13, 14, 15]] [.mv 37 0, .mv 38 9, .mv 39 0, .mv 40 9, .bin 41 .sub 40 (kI 1), .mv 42 0, .mv 43 9, .bin 44 .sub 43 (kI 1), .ia 45 1 42 44, .ld 46 1 false 45, .mv 47 0, .mv 48 9, .ia 49 1 47 48, .ld 50 1 false 49, .ia 51 1 37 38, .st 1 51 46, .ia 52 1 39 41, .st 1 52 50])) (.ops [.mv 35 9, .bin 36 .sub 35 (kI 1), .asg 9 36]))))
def ccgSlices_insertionSortCmpFunc_Simpl_Value_iOrderRow_0 : AC := (.ops [.mv 15 8, .bin 16 .add 15 (kI 1), .asg 8 16])
def acgSlices_insertionSortCmpFunc_Simpl_Value_iOrderRow_L0 : AC := (.loop (.seq (.seq (.ops [.mv 12 8, .mv 13 2, .bin 14 .lss 12 13]) (.cond 14 .skip (.exit 0))) (.seq (.block 1 (.seq (.ops [.mv 17 8, .asg 9 17]) (.block 2 acgSlices_insertionSortCmpFunc_Simpl_Value_iOrderRow_L1))) ccgSlices_insertionSortCmpFunc_Simpl_Value_iOrderRow_0)))
def acgSlices_insertionSortCmpFunc_Simpl_Value_iOrderRow : AC := (.seq (.ops [.mv 10 1, .bin 11 .add 10 (kI 1), .asg 8 11]) (.block 0 acgSlices_insertionSortCmpFunc_Simpl_Value_iOrderRow_L0))
theorem trgSlices_insertionSortCmpFunc_Simpl_Value_iOrderRow : trFn Try.prog 38 = some (acgSlices_insertionSortCmpFunc_Simpl_Value_iOrderRow, [], 53) := by kernel_rfl
def qgSlices_insertionSortCmpFunc_Simpl_Value_iOrderRow (r : (List (List GValue))) : Exit → St → Prop := retQ [] fun x b => x = (fun (y : (List (List GValue))) => (.tup [])) r ∧ bxHas ((fun (y : (List (List GValue))) => [(3000000, [(.trs 1 (y.map (cSl 3 cGValue)))])]) r) b
def qgSlices_insertionSortCmpFunc_Simpl_Value_iOrderRow_0 (r : (List (List GValue))) : Exit → St → Prop := (blockK 0 (qgSlices_insertionSortCmpFunc_Simpl_Value_iOrderRow r))
def qgSlices_insertionSortCmpFunc_Simpl_Value_iOrderRow_1 (r : (List (List GValue))) : Exit → St → Prop := (thenK (avc Try.prog acgSlices_insertionSortCmpFunc_Simpl_Value_iOrderRow_L0 (qgSlices_insertionSortCmpFunc_Simpl_Value_iOrderRow_0 r)) (qgSlices_insertionSortCmpFunc_Simpl_Value_iOrderRow_0 r))
def qgSlices_insertionSortCmpFunc_Simpl_Value_iOrderRow_2 (r : (List (List GValue))) : Exit → St → Prop := (thenK (wkK (avc Try.prog ccgSlices_insertionSortCmpFunc_Simpl_Value_iOrderRow_0 (qgSlices_insertionSortCmpFunc_Simpl_Value_iOrderRow_1 r))) (qgSlices_insertionSortCmpFunc_Simpl_Value_iOrderRow_1 r))
def qgSlices_insertionSortCmpFunc_Simpl_Value_iOrderRow_3 (r : (List (List GValue))) : Exit → St → Prop := (blockK 1 (qgSlices_insertionSortCmpFunc_Simpl_Value_iOrderRow_2 r))
def qgSlices_insertionSortCmpFunc_Simpl_Value_iOrderRow_4 (r : (List (List GValue))) : Exit → St → Prop := (blockK 2 (qgSlices_insertionSortCmpFunc_Simpl_Value_iOrderRow_3 r))
def stgSlices_insertionSortCmpFunc_Simpl_Value_iOrderRow_L0 (p1 : Int) (p2 : Int) (x8 : Int) (b3000000_0 : (List (List GValue))) : St := ⟨[(0, (.tre 3000000)), (1, (vI p1)), (2, (vI p2)), (3, (.fn 21 [])), (8, (vI x8))], [(3000000, [(.trs 1 (b3000000_0.map (cSl 3 cGValue)))])]⟩
abbrev mogSlices_insertionSortCmpFunc_Simpl_Value_iOrderRow_L0 := fun p1 p2 x8 b3000000_0 r => avc Try.prog acgSlices_insertionSortCmpFunc_Simpl_Value_iOrderRow_L0 (qgSlices_insertionSortCmpFunc_Simpl_Value_iOrderRow_0 r) (stgSlices_insertionSortCmpFunc_Simpl_Value_iOrderRow_L0 p1 p2 x8 b3000000_0)
def stgSlices_insertionSortCmpFunc_Simpl_Value_iOrderRow_L1 (p1 : Int) (p2 : Int) (x8 : Int) (x9 : Int) (b3000000_0_1 : (List (List GValue))) : St := ⟨[(0, (.tre 3000000)), (1, (vI p1)), (2, (vI p2)), (3, (.fn 21 [])), (8, (vI x8)), (9, (vI x9))], [(3000000, [(.trs 1 (b3000000_0_1.map (cSl 3 cGValue)))])]⟩
abbrev mogSlices_insertionSortCmpFunc_Simpl_Value_iOrderRow_L1 := fun p1 p2 x8 x9 b3000000_0_1 r => avc Try.prog acgSlices_insertionSortCmpFunc_Simpl_Value_iOrderRow_L1 (qgSlices_insertionSortCmpFunc_Simpl_Value_iOrderRow_4 r) (stgSlices_insertionSortCmpFunc_Simpl_Value_iOrderRow_L1 p1 p2 x8 x9 b3000000_0_1)
def aciSameRows : AC := (.seq (.ops [.asg 4 (kB false)]) (.seq (.ops [.mv 5 0, .mv 6 1, .call (some 7) 13 [5, 6, (.c (.fn 14 []))], .asg 4 7]) .ret))
theorem triSameRows : trFn Try.prog 8 = some (aciSameRows, [.mv 0 4], 8) := by kernel_rfl
def qiSameRows (r : Bool) : Exit → St → Prop := retQ [.mv 0 4] fun x _ => x = (fun y => (vB y)) r
def acgSlices_EqualFunc_SSimpl_Value_SSimpl_Value_Simpl_Value_Simpl_Value_gSlices_Equal_Simpl_Value_impl_Value_L0 : AC := (.loop (.seq (.ops [.bin 18 .lss 17 16]) (.seq (.cond 18 .skip (.exit 0)) (.seq (.block 1 (.seq (.ops [.mv 19 17, .ia 20 1 15 17, .ld 21 1 false 20, .asg 7 19, .asg 8 21]) (.seq (.ops [.mv 22 1, .mv 23 7, .ia 24 1 22 23, .ld 25 1 false 24, .asg 9 25]) (.seq (.ops [.mv 26 2, .mv 27 8, .mv 28 9, .callv (some 29) 26 [27, 28], .not 30 29]) (.cond 30 (.seq (.ops [.asg 6 (kB false)]) .ret) .skip))))) (.ops [.bin 31 .add 17 (kI 1), .mv 17 31])))))
def ccgSlices_EqualFunc_SSimpl_Value_SSimpl_Value_Simpl_Value_Simpl_Value_gSlices_Equal_Simpl_Value_impl_Value_0 : AC := (.seq (.ops [.asg 6 (kB true)]) .ret)
def acgSlices_EqualFunc_SSimpl_Value_SSimpl_Value_Simpl_Value_Simpl_Value_gSlices_Equal_Simpl_Value_impl_Value : AC := (.seq (.ops [.asg 6 (kB false)]) (.seq (.seq (.ops [.mv 10 0, .len 11 10, .mv 12 1, .len 13 12, .bin 14 .neq 11 13]) (.cond 14 (.seq (.ops [.asg 6 (kB false)]) .ret) .skip)) (.seq (.seq (.ops [.mv 15 0, .len 16 15, .mv 17 (kI 0)]) (.block 0 acgSlices_EqualFunc_SSimpl_Value_SSimpl_Value_Simpl_Value_Simpl_Value_gSlices_Equal_Simpl_Value_impl_Value_L0)) ccgSlices_EqualFunc_SSimpl_Value_SSimpl_Value_Simpl_Value_Simpl_Value_gSlices_Equal_Simpl_Value_impl_Value_0)))
theorem trgSlices_EqualFunc_SSimpl_Value_SSimpl_Value_Simpl_Value_Simpl_Value_gSlices_Equal_Simpl_Value_impl_Value : trFn Try.prog 13 = some (acgSlices_EqualFunc_SSimpl_Value_SSimpl_Value_Simpl_Value_Simpl_Value_gSlices_Equal_Simpl_Value_impl_Value, [.mv 0 6], 32) := by kernel_rfl
def qgSlices_EqualFunc_SSimpl_Value_SSimpl_Value_Simpl_Value_Simpl_Value_gSlices_Equal_Simpl_Value_impl_Value (r : Bool) : Exit → St → Prop := retQ [.mv 0 6] fun x _ => x = (fun y => (vB y)) r
def qgSlices_EqualFunc_SSimpl_Value_SSimpl_Value_Simpl_Value_Simpl_Value_gSlices_Equal_Simpl_Value_impl_Value_0 (r : Bool) : Exit → St → Prop := (thenK (wkK (avc Try.prog ccgSlices_EqualFunc_SSimpl_Value_SSimpl_Value_Simpl_Value_Simpl_Value_gSlices_Equal_Simpl_Value_impl_Value_0 (qgSlices_EqualFunc_SSimpl_Value_SSimpl_Value_Simpl_Value_Simpl_Value_gSlices_Equal_Simpl_Value_impl_Value r))) (qgSlices_EqualFunc_SSimpl_Value_SSimpl_Value_Simpl_Value_Simpl_Value_gSlices_Equal_Simpl_Value_impl_Value r))
def qgSlices_EqualFunc_SSimpl_Value_SSimpl_Value_Simpl_Value_Simpl_Value_gSlices_Equal_Simpl_Value_impl_Value_1 (r : Bool) : Exit → St → Prop := (blockK 0 (qgSlices_EqualFunc_SSimpl_Value_SSimpl_Value_Simpl_Value_Simpl_Value_gSlices_Equal_Simpl_Value_impl_Value_0 r))
def stgSlices_EqualFunc_SSimpl_Value_SSimpl_Value_Simpl_Value_Simpl_Value_gSlices_Equal_Simpl_Value_impl_Value_L0 (p1 : (List (List GValue))) (p0 : (List (List GValue))) (x17 : Int) : St := ⟨[(1, (.d (.sl 1 (p1.map (cSl 3 cGValue))))), (2, (.fn 14 [])), (15, (.d (.sl 1 (p0.map (cSl 3 cGValue))))), (16, (vI (p0.length : Int))), (17, (vI x17))], []⟩
abbrev mogSlices_EqualFunc_SSimpl_Value_SSimpl_Value_Simpl_Value_Simpl_Value_gSlices_Equal_Simpl_Value_impl_Value_L0 := fun p1 p0 x17 r => avc Try.prog acgSlices_EqualFunc_SSimpl_Value_SSimpl_Value_Simpl_Value_Simpl_Value_gSlices_Equal_Simpl_Value_impl_Value_L0 (qgSlices_EqualFunc_SSimpl_Value_SSimpl_Value_Simpl_Value_Simpl_Value_gSlices_Equal_Simpl_Value_impl_Value_1 r) (stgSlices_EqualFunc_SSimpl_Value_SSimpl_Value_Simpl_Value_Simpl_Value_gSlices_Equal_Simpl_Value_impl_Value_L0 p1 p0 x17)
def acgSlices_Equal_Simpl_Value_impl_Value_L0 : AC := (.loop (.seq (.ops [.bin 14 .lss 13 12]) (.seq (.cond 14 .skip (.exit 0)) (.seq (.block 1 (.seq (.ops [.mv 15 13, .asg 5 15]) (.seq (.dops [[], [], [0, 1], [2], [], [], [4, 5], [6], [3, 7]] [.mv 16 0, .mv 17 5, .ia 18 3 16 17, .ld 19 3 true 18, .mv 20 1, .mv 21 5, .ia 22 3 20 21, .ld 23 3 true 22, .eqv 24 true [0, 0, 1] 19 23]) (.cond 24 (.seq (.ops [.asg 4 (kB false)]) .ret) .skip)))) (.ops [.bin 25 .add 13 (kI 1), .mv 13 25])))))
def ccgSlices_Equal_Simpl_Value_impl_Value_0 : AC := (.seq (.ops [.asg 4 (kB true)]) .ret)
def acgSlices_Equal_Simpl_Value_impl_Value : AC := (.seq (.ops [.asg 4 (kB false)]) (.seq (.seq (.ops [.mv 6 0, .len 7 6, .mv 8 1, .len 9 8, .bin 10 .neq 7 9]) (.cond 10 (.seq (.ops [.asg 4 (kB false)]) .ret) .skip)) (.seq (.seq (.ops [.mv 11 0, .len 12 11, .mv 13 (kI 0)]) (.block 0 acgSlices_Equal_Simpl_Value_impl_Value_L0)) ccgSlices_Equal_Simpl_Value_impl_Value_0)))
theorem trgSlices_Equal_Simpl_Value_impl_Value : trFn Try.prog 14 = some (acgSlices_Equal_Simpl_Value_impl_Value, [.mv 0 4], 26) := by kernel_rfl
def qgSlices_Equal_Simpl_Value_impl_Value (r : Bool) : Exit → St → Prop := retQ [.mv 0 4] fun x _ => x = (fun y => (vB y)) r
def qgSlices_Equal_Simpl_Value_impl_Value_0 (r : Bool) : Exit → St → Prop := (thenK (wkK (avc Try.prog ccgSlices_Equal_Simpl_Value_impl_Value_0 (qgSlices_Equal_Simpl_Value_impl_Value r))) (qgSlices_Equal_Simpl_Value_impl_Value r))
def qgSlices_Equal_Simpl_Value_impl_Value_1 (r : Bool) : Exit → St → Prop := (blockK 0 (qgSlices_Equal_Simpl_Value_impl_Value_0 r))
def stgSlices_Equal_Simpl_Value_impl_Value_L0 (p0 : (List GValue)) (p1 : (List GValue)) (x13 : Int) : St := ⟨[(0, (.d (.sl 3 (p0.map cGValue)))), (1, (.d (.sl 3 (p1.map cGValue)))), (12, (vI (p0.length : Int))), (13, (vI x13))], []⟩
abbrev mogSlices_Equal_Simpl_Value_impl_Value_L0 := fun p0 p1 x13 r => avc Try.prog acgSlices_Equal_Simpl_Value_impl_Value_L0 (qgSlices_Equal_Simpl_Value_impl_Value_1 r) (stgSlices_Equal_Simpl_Value_impl_Value_L0 p0 p1 x13)
def acsDrawSameBag : AC := (.seq (.ops [.asg 2 (.c (.nil 1)), .asg 3 (.c (.nil 1))]) (.seq (.ops [.mv 4 0, .call (some 5) 9 [4], .ext 6 5 0, .ext 7 5 1, .asg 2 6, .asg 3 7]) .ret))
theorem trsDrawSameBag : trFn Try.prog 5 = some (acsDrawSameBag, [.mv 0 2, .mv 0 3], 8) := by kernel_rfl
def qsDrawSameBag (r : (List (List GValue)) × (List (List GValue))) : Exit → St → Prop := retQ [.mv 0 2, .mv 0 3] fun x b => x = (fun (y : (List (List GValue)) × (List (List GValue))) => (.tup [(.osl 2000000 28 1 (y.1.map (cSl 3 cGValue))), (.d (.sl 1 (y.2.map (cSl 3 cGValue))))])) r ∧ bxHas ((fun (y : (List (List GValue)) × (List (List GValue))) => []) r) b
def acsL1New_L0 : AC := (.loop (.seq (.seq (.ops [.mv 8 4, .mv 9 0, .len 10 9, .bin 11 .lss 8 10, .mv 12 11, .g 12 true (.mv 13 4), .g 12 true (.bin 14 .lss 13 (kI 4000)), .pick 15 12 14 (kB false)]) (.cond 15 .skip (.exit 0))) (.seq (.block 1 (.ops [.mv 18 3, .bin 19 .mul 18 (kI 131), .mv 20 0, .mv 21 4, .ia 22 1 20 21, .ld 23 1 false 22, .cvi 24 .i64 23, .bin 25 .add 19 24, .bin 26 .add 25 (kI 7), .bin 27 .and 26 (kI 1073741823), .asg 3 27])) (.ops [.mv 16 4, .bin 17 .add 16 (kI 1), .asg 4 17]))))
def ccsL1New_0 : AC := (.seq (.ops [.mv 28 0, .mv 29 3, .bld 30 [(.nil 1), (.d (.i .i64 0)), (.d (.i .i64 0))] [(0, 1, 28), (2, 1, 29)], .box 31 42 30, .asg 2 31]) .ret)
def acsL1New : AC := (.seq (.ops [.asg 2 (.c .np)]) (.seq (.ops [.mv 5 0, .len 6 5, .bin 7 .add (kI 28322) 6, .asg 3 7]) (.seq (.seq (.ops [.asg 4 (kI 0)]) (.block 0 acsL1New_L0)) ccsL1New_0)))
theorem trsL1New : trFn Try.prog 15 = some (acsL1New, [.mv 0 2], 32) := by kernel_rfl
def qsL1New (r : GL1Cur) : Exit → St → Prop := retQ [.mv 0 2] fun x b => x = (fun (y : GL1Cur) => (.ptr 31 0)) r ∧ bxHas ((fun (y : GL1Cur) => [(31, bGL1Cur y)]) r) b
def qsL1New_0 (r : GL1Cur) : Exit → St → Prop := (thenK (wkK (avc Try.prog ccsL1New_0 (qsL1New r))) (qsL1New r))
def qsL1New_1 (r : GL1Cur) : Exit → St → Prop := (blockK 0 (qsL1New_0 r))
def stsL1New_L0 (p0 : (List Int)) (x3 : Int) (x4 : Int) : St := ⟨[(0, (.d (.sl 1 (p0.map cU8)))), (3, (vI x3)), (4, (vI x4))], []⟩
abbrev mosL1New_L0 := fun p0 x3 x4 r => avc Try.prog acsL1New_L0 (qsL1New_1 r) (stsL1New_L0 p0 x3 x4)
def acsL26Two_J0 : AC := (.seq (.ops [.mv 33 5, .mv 34 6, .asg 2 33, .asg 3 34]) .ret)
def acsL26Two : AC := (.seq (.ops [.asg 2 (.c (.nil 1)), .asg 3 (.c (.nil 1))]) (.seq (.ops [.mv 7 0, .call (some 8) 15 [7], .asg 4 8]) (.seq (.ops [.mv 9 4, .call (some 10) 16 [9], .asg 5 10]) (.seq (.ops [.mv 11 5, .call (some 12) 17 [11], .asg 6 12]) (.seq (.seq (.ops [.mv 13 4, .call (some 14) 18 [13, (kI 4)]]) (.block 0 (.seq (.ops [.bin 16 .eql 14 (kI 0), .asg 15 16]) (.cond 15 (.ops [.mv 17 4, .call (some 18) 16 [17], .asg 6 18]) (.seq (.ops [.bin 20 .eql 14 (kI 1), .asg 19 20]) (.cond 19 (.ops [.mv 21 6, .call (some 22) 12 [21], .asg 6 22]) (.seq (.ops [.bin 24 .eql 14 (kI 2), .asg 23 24]) (.cond 23 (.seq (.ops [.mv 25 6, .len 26 25, .bin 27 .gtr 26 (kI 1)]) (.cond 27 (.ops [.mv 28 6, .mv 29 6, .ia 30 1 29 (kI 1), .ld 31 1 false 30, .ia 32 1 28 (kI 0), .st 1 32 31]) .skip)) .skip)))))))) acsL26Two_J0)))))
theorem trsL26Two : trFn Try.prog 9 = some (acsL26Two, [.mv 0 2, .mv 0 3], 35) := by kernel_rfl
def qsL26Two (r : (List (List GValue)) × (List (List GValue))) : Exit → St → Prop := retQ [.mv 0 2, .mv 0 3] fun x b => x = (fun (y : (List (List GValue)) × (List (List GValue))) => (.tup [(.osl 2000000 28 1 (y.1.map (cSl 3 cGValue))), (.d (.sl 1 (y.2.map (cSl 3 cGValue))))])) r ∧ bxHas ((fun (y : (List (List GValue)) × (List (List GValue))) => []) r) b
def stsL26Two_J0 (y2 : (List (List GValue)) × GL1Cur) (x6 : (List (List GValue))) : St := ⟨[(5, (.osl 5 28 1 (y2.1.map (cSl 3 cGValue)))), (6, (.d (.sl 1 (x6.map (cSl 3 cGValue)))))], []⟩
abbrev mosL26Two_J0 := fun y2 x6 r => avc Try.prog acsL26Two_J0 (qsL26Two r) (stsL26Two_J0 y2 x6)
def acsL1Below : AC := (.seq (.ops [.asg 4 (kI 0)]) (.seq (.seq (.ops [.mv 9 1, .bin 10 .leq 9 (kI 0)]) (.cond 10 (.seq (.ops [.asg 4 (kI 0)]) .ret) .skip)) (.seq (.seq (.ops [.mv 11 1, .bin 12 .leq 11 (kI 256)]) (.cond 12 (.seq (.ops [.mv 13 0, .call (some 14) 27 [13], .mv 15 1, .bin 16 .rem 14 15, .asg 4 16]) .ret) .skip)) (.seq (.ops [.mv 17 0, .call (some 18) 27 [17], .asg 5 18]) (.seq (.ops [.mv 19 0, .call (some 20) 27 [19], .asg 6 20]) (.seq (.ops [.mv 21 0, .call (some 22) 27 [21], .asg 7 22]) (.seq (.ops [.mv 23 0, .call (some 24) 27 [23], .asg 8 24]) (.seq (.ops [.mv 25 5, .bin 26 .mul 25 (kI 16777216), .mv 27 6, .bin 28 .mul 27 (kI 65536), .bin 29 .add 26 28, .mv 30 7, .bin 31 .mul 30 (kI 256), .bin 32 .add 29 31, .mv 33 8, .bin 34 .add 32 33, .mv 35 1, .bin 36 .rem 34 35, .asg 4 36]) .ret))))))))
theorem trsL1Below : trFn Try.prog 18 = some (acsL1Below, [.mv 0 4], 37) := by kernel_rfl
def qsL1Below (r : Int × GL1Cur) : Exit → St → Prop := retQ [.mv 0 4] fun x b => x = (fun (y : Int × GL1Cur) => (vI y.1)) r ∧ bxHas ((fun (y : Int × GL1Cur) => [(1000000, bGL1Cur y.2)]) r) b
def acsL1Byte_J0 : AC := (.seq (.ops [.mv 57 3, .asg 2 57]) .ret)
def acsL1Byte : AC := (.seq (.ops [.asg 2 (kI 0)]) (.seq (.ops [.mv 4 0, .mv 5 0, .nck 6 5, .fa 7 2 6, .ld 8 1 false 7, .bin 9 .mul 8 (kI 6364136223846793005), .bin 10 .add 9 (kI 1442695040888963407), .nck 11 4, .fa 12 2 11, .st 1 12 10]) (.seq (.dops [[], [0], [1], [2], [3], [], [5], [6], [7], [8], [4, 9], [10], [11, 0, 1, 2, 3, 4, 5, 6, 7, 8, 9, 10, 11]] [.mv 13 0, .nck 14 13, .fa 15 2 14, .ld 16 1 false 15, .bin 17 .shr 16 (.c (.d (.i .u64 33))), .mv 18 0, .nck 19 18, .fa 20 2 19, .ld 21 1 false 20, .bin 22 .shr 21 (.c (.d (.i .u64 45))), .bin 23 .xor 17 22, .bin 24 .and 23 (kI 255), .asg 3 24]) (.seq (.seq (.dops [[], [0], [1], [2], [], [4], [5], [6], [7], [3, 8]] [.mv 25 0, .nck 26 25, .fa 27 1 26, .ld 28 1 false 27, .mv 29 0, .nck 30 29, .fa 31 0 30, .ld 32 1 false 31, .len 33 32, .bin 34 .lss 28 33]) (.cond 34 (.seq (.dops [[], [], [1], [2], [3], [], [5], [6], [7], [4, 8], [9], [10], [0, 11], [12], [13, 0, 1, 2, 3, 4, 5, 6, 7, 8, 9, 10, 11, 12, 13]] [.mv 35 3, .mv 36 0, .nck 37 36, .fa 38 0 37, .ld 39 1 false 38, .mv 40 0, .nck 41 40, .fa 42 1 41, .ld 43 1 false 42, .ia 44 1 39 43, .ld 45 1 false 44, .cvi 46 .i64 45, .bin 47 .add 35 46, .bin 48 .and 47 (kI 255), .asg 3 48]) (.ops [.mv 49 0, .mv 50 0, .nck 51 50, .fa 52 1 51, .ld 53 1 false 52, .bin 54 .add 53 (kI 1), .nck 55 49, .fa 56 1 55, .st 1 56 54])) .skip)) acsL1Byte_J0))))
theorem trsL1Byte : trFn Try.prog 27 = some (acsL1Byte, [.mv 0 2], 58) := by kernel_rfl
def qsL1Byte (r : Int × GL1Cur) : Exit → St → Prop := retQ [.mv 0 2] fun x b => x = (fun (y : Int × GL1Cur) => (vI y.1)) r ∧ bxHas ((fun (y : Int × GL1Cur) => [(1000000, bGL1Cur y.2)]) r) b
def stsL1Byte_J0 (p0 : GL1Cur) (x3 : Int) (b1000000_1 : Int) : St := ⟨[(3, (vI x3))], [(1000000, bGL1Cur (GL1Cur.mk p0.b b1000000_1 (IntKind.wrap .i64 ((IntKind.wrap .i64 (p0.h * 6364136223846793005)) + 1442695040888963407))))]⟩
abbrev mosL1Byte_J0 := fun p0 x3 b1000000_1 r => avc Try.prog acsL1Byte_J0 (qsL1Byte r) (stsL1Byte_J0 p0 x3 b1000000_1)
def acsL26Rows_L0 : AC := (.loop (.seq (.seq (.ops [.mv 9 5, .mv 10 4, .bin 11 .lss 9 10]) (.cond 11 .skip (.exit 0))) (.seq (.block 1 (.ops [.mv 14 3, .mv 15 0, .call (some 16) 18 [15, (kI 3)], .call (some 17) 25 [16], .mv 18 0, .mv 19 0, .call (some 20) 18 [19, (kI 3)], .bin 21 .add (kI 1) 20, .call (some 22) 26 [18, 21], .bsl 23 33 3 [17, 22], .mv 24 0, .call (some 25) 18 [24, (kI 2)], .bin 26 .add (kI 1) 25, .slc 27 3 23 none (some 26) none, .bsl 28 28 1 [27], .app 29 28 1 24 14 28, .asg 3 29])) (.ops [.mv 12 5, .bin 13 .add 12 (kI 1), .asg 5 13]))))
def ccsL26Rows_0 : AC := (.seq (.ops [.mv 30 3, .asg 2 30]) .ret)
def acsL26Rows : AC := (.seq (.ops [.asg 2 (.c (.nil 1))]) (.seq (.ops [.bsl 6 28 1 [], .asg 3 6]) (.seq (.ops [.mv 7 0, .call (some 8) 18 [7, (kI 6)], .asg 4 8]) (.seq (.seq (.ops [.asg 5 (kI 0)]) (.block 0 acsL26Rows_L0)) ccsL26Rows_0))))
theorem trsL26Rows : trFn Try.prog 16 = some (acsL26Rows, [.mv 0 2], 31) := by kernel_rfl
def qsL26Rows (r : (List (List GValue)) × GL1Cur) : Exit → St → Prop := retQ [.mv 0 2] fun x b => x = (fun (y : (List (List GValue)) × GL1Cur) => (.osl 2000000 28 1 (y.1.map (cSl 3 cGValue)))) r ∧ bxHas ((fun (y : (List (List GValue)) × GL1Cur) => [(1000000, bGL1Cur y.2)]) r) b
def qsL26Rows_0 (r : (List (List GValue)) × GL1Cur) : Exit → St → Prop := (thenK (wkK (avc Try.prog ccsL26Rows_0 (qsL26Rows r))) (qsL26Rows r))
def qsL26Rows_1 (r : (List (List GValue)) × GL1Cur) : Exit → St → Prop := (blockK 0 (qsL26Rows_0 r))
def stsL26Rows_L0 (y1 : Int × GL1Cur) (x3 : (List (List GValue))) (x5 : Int) (b1000000_0 : (List Int)) (b1000000_1 : Int) (b1000000_2 : Int) : St := ⟨[(0, (.ptr 1000000 0)), (3, (.osl 3 28 1 (x3.map (cSl 3 cGValue)))), (4, (vI y1.1)), (5, (vI x5))], [(1000000, bGL1Cur (GL1Cur.mk b1000000_0 b1000000_1 b1000000_2))]⟩
abbrev mosL26Rows_L0 := fun y1 x3 x5 b1000000_0 b1000000_1 b1000000_2 r => avc Try.prog acsL26Rows_L0 (qsL26Rows_1 r) (stsL26Rows_L0 y1 x3 x5 b1000000_0 b1000000_1 b1000000_2)
def acsL6Typed : AC := (.seq (.ops [.alc 4 [(.d (.i .i64 0)), (.d (.i .i64 0)), (.d (.s (bs [])))]]) (.seq (.seq (.ops [.mv 5 0, .call (some 6) 33 [5, (kI 6)]]) (.cond 6 (.seq (.ops [.bld 7 [(.d (.i .i64 0)), (.d (.i .i64 0)), (.d (.s (bs [])))] [], .st 3 4 7]) .ret) .skip)) (.seq (.seq (.ops [.mv 8 1]) (.block 0 (.seq (.ops [.bin 10 .eql 8 (kI 2), .asg 9 10]) (.cond 9 (.seq (.ops [.mv 11 0, .bsl 12 9 1 [(.c (.d (.s (bs [])))), (.c (.d (.s (bs [97])))), (.c (.d (.s (bs [98])))), (.c (.d (.s (bs [97, 98]))))], .call (some 13) 35 [11, 12], .call (some 14) 34 [13], .st 3 4 14]) .ret) (.seq (.ops [.bin 16 .eql 8 (kI 3), .asg 15 16]) (.cond 15 (.seq (.ops [.mv 17 0, .call (some 18) 33 [17, (kI 2)], .call (some 19) 36 [18], .st 3 4 19]) .ret) .skip)))))) (.seq (.ops [.mv 20 0, .call (some 21) 37 [20], .call (some 22) 25 [21], .st 3 4 22]) .ret))))
theorem trsL6Typed : trFn Try.prog 26 = some (acsL6Typed, [.ld 0 3 true 4], 23) := by kernel_rfl
def qsL6Typed (r : GValue × GL1Cur) : Exit → St → Prop := retQ [.ld 0 3 true 4] fun x b => x = (fun (y : GValue × GL1Cur) => (vGValue y.1)) r ∧ bxHas ((fun (y : GValue × GL1Cur) => [(1000000, bGL1Cur y.2)]) r) b
def acsL1Pick : AC := (.seq (.ops [.asg 4 (.c (.d (.s (bs []))))]) (.seq (.ops [.mv 5 1, .mv 6 0, .mv 7 1, .len 8 7, .call (some 9) 18 [6, 8], .ia 10 1 5 9, .ld 11 1 false 10, .asg 4 11]) .ret))
theorem trsL1Pick : trFn Try.prog 35 = some (acsL1Pick, [.mv 0 4], 12) := by kernel_rfl
def qsL1Pick (r : (List UInt8) × GL1Cur) : Exit → St → Prop := retQ [.mv 0 4] fun x b => x = (fun (y : (List UInt8) × GL1Cur) => (vS y.1)) r ∧ bxHas ((fun (y : (List UInt8) × GL1Cur) => [(1000000, bGL1Cur y.2)]) r) b
def acsTextValue : AC := (.seq (.ops [.alc 2 [(.d (.i .i64 0)), (.d (.i .i64 0)), (.d (.s (bs [])))]]) (.seq (.ops [.mv 3 0, .bld 4 [(.d (.i .i64 0)), (.d (.i .i64 0)), (.d (.s (bs [])))] [(0, 1, (kI 2)), (2, 1, 3)], .st 3 2 4]) .ret))
theorem trsTextValue : trFn Try.prog 34 = some (acsTextValue, [.ld 0 3 true 2], 5) := by kernel_rfl
def qsTextValue (r : GValue) : Exit → St → Prop := retQ [.ld 0 3 true 2] fun x _ => x = (fun y => (vGValue y)) r
def acsL1Once : AC := (.seq (.ops [.asg 4 (kB false)]) (.seq (.ops [.mv 5 0, .mv 6 1, .call (some 7) 18 [5, 6], .bin 8 .eql 7 (kI 0), .asg 4 8]) .ret))
theorem trsL1Once : trFn Try.prog 33 = some (acsL1Once, [.mv 0 4], 9) := by kernel_rfl
def qsL1Once (r : Bool × GL1Cur) : Exit → St → Prop := retQ [.mv 0 4] fun x b => x = (fun (y : Bool × GL1Cur) => (vB y.1)) r ∧ bxHas ((fun (y : Bool × GL1Cur) => [(1000000, bGL1Cur y.2)]) r) b
def acsL1Whole : AC := (.seq (.ops [.asg 2 (kI 0)]) (.seq (.seq (.ops [.mv 3 0, .call (some 4) 18 [3, (kI 3)]]) (.block 0 (.seq (.ops [.bin 6 .eql 4 (kI 0), .asg 5 6]) (.cond 5 (.seq (.ops [.mv 7 0, .bsl 8 3 1 [(kI 0), (kI 1), (kI (-1)), (kI 63), (kI 64), (kI (-64)), (kI (-65)), (kI 127), (kI 128), (kI 16383), (kI 16384), (kI 9223372036854775807), (kI (-9223372036854775808)), (kI 4611686018427387904)], .call (some 9) 43 [7, 8], .asg 2 9]) .ret) (.seq (.ops [.bin 11 .eql 4 (kI 1), .asg 10 11]) (.cond 10 (.seq (.ops [.mv 12 0, .call (some 13) 18 [12, (kI 1000000)], .bin 14 .sub 13 (kI 500000), .asg 2 14]) .ret) .skip)))))) (.seq (.ops [.mv 15 0, .call (some 16) 18 [15, (kI 20)], .asg 2 16]) .ret)))
theorem trsL1Whole : trFn Try.prog 37 = some (acsL1Whole, [.mv 0 2], 17) := by kernel_rfl
def qsL1Whole (r : Int × GL1Cur) : Exit → St → Prop := retQ [.mv 0 2] fun x b => x = (fun (y : Int × GL1Cur) => (vI y.1)) r ∧ bxHas ((fun (y : Int × GL1Cur) => [(1000000, bGL1Cur y.2)]) r) b
def acsL1PickInt : AC := (.seq (.ops [.asg 4 (kI 0)]) (.seq (.ops [.mv 5 1, .mv 6 0, .mv 7 1, .len 8 7, .call (some 9) 18 [6, 8], .ia 10 1 5 9, .ld 11 1 false 10, .asg 4 11]) .ret))
theorem trsL1PickInt : trFn Try.prog 43 = some (acsL1PickInt, [.mv 0 4], 12) := by kernel_rfl
def qsL1PickInt (r : Int × GL1Cur) : Exit → St → Prop := retQ [.mv 0 4] fun x b => x = (fun (y : Int × GL1Cur) => (vI y.1)) r ∧ bxHas ((fun (y : Int × GL1Cur) => [(1000000, bGL1Cur y.2)]) r) b
def acsIntValue : AC := (.seq (.ops [.alc 2 [(.d (.i .i64 0)), (.d (.i .i64 0)), (.d (.s (bs [])))]]) (.seq (.ops [.mv 3 0, .bld 4 [(.d (.i .i64 0)), (.d (.i .i64 0)), (.d (.s (bs [])))] [(0, 1, (kI 1)), (1, 1, 3)], .st 3 2 4]) .ret))
theorem trsIntValue : trFn Try.prog 25 = some (acsIntValue, [.ld 0 3 true 2], 5) := by kernel_rfl
def qsIntValue (r : GValue) : Exit → St → Prop := retQ [.ld 0 3 true 2] fun x _ => x = (fun y => (vGValue y)) r
def acsBoolValue : AC := (.seq (.ops [.alc 2 [(.d (.i .i64 0)), (.d (.i .i64 0)), (.d (.s (bs [])))]]) (.seq (.seq (.ops [.mv 3 0]) (.cond 3 (.seq (.ops [.bld 4 [(.d (.i .i64 0)), (.d (.i .i64 0)), (.d (.s (bs [])))] [(0, 1, (kI 3)), (1, 1, (kI 1))], .st 3 2 4]) .ret) .skip)) (.seq (.ops [.bld 5 [(.d (.i .i64 0)), (.d (.i .i64 0)), (.d (.s (bs [])))] [(0, 1, (kI 3))], .st 3 2 5]) .ret)))
theorem trsBoolValue : trFn Try.prog 36 = some (acsBoolValue, [.ld 0 3 true 2], 6) := by kernel_rfl
def qsBoolValue (r : GValue) : Exit → St → Prop := retQ [.ld 0 3 true 2] fun x _ => x = (fun y => (vGValue y)) r
def acsL5Rows_X_L0 : AC := (.loop (.seq (.seq (.ops [.mv 6 4, .mv 7 0, .len 8 7, .bin 9 .lss 6 8]) (.cond 9 .skip (.exit 0))) (.seq (.block 1 (.ops [.mv 12 3, .mv 13 0, .mv 14 4, .ia 15 1 13 14, .ld 16 1 false 15, .call (some 17) 24 [16], .bsl 18 28 1 [17], .app 19 28 1 24 12 18, .asg 3 19])) (.ops [.mv 10 4, .bin 11 .add 10 (kI 1), .asg 4 11]))))
def ccsL5Rows_X_0 : AC := (.seq (.ops [.mv 20 3, .asg 2 20]) .ret)
def acsL5Rows_X : AC := (.seq (.ops [.asg 2 (.c (.nil 1))]) (.seq (.ops [.bsl 5 28 1 [], .asg 3 5]) (.seq (.seq (.ops [.asg 4 (kI 0)]) (.block 0 acsL5Rows_X_L0)) ccsL5Rows_X_0)))
theorem trsL5Rows_X : trFn Try.prog 17 = some (acsL5Rows_X, [.mv 0 2], 21) := by kernel_rfl
def qsL5Rows_X (r : (List (List GValue))) : Exit → St → Prop := retQ [.mv 0 2] fun x b => x = (fun (y : (List (List GValue))) => (.tre 10000000)) r ∧ bxHas ((fun (y : (List (List GValue))) => [(10000000, [(.trs 1 (y.map (cSl 3 cGValue)))])]) r) b
def qsL5Rows_X_0 (r : (List (List GValue))) : Exit → St → Prop := (thenK (wkK (avc Try.prog ccsL5Rows_X_0 (qsL5Rows_X r))) (qsL5Rows_X r))
def qsL5Rows_X_1 (r : (List (List GValue))) : Exit → St → Prop := (blockK 0 (qsL5Rows_X_0 r))
def stsL5Rows_X_L0 (p0 : (List (List GValue))) (x4 : Int) (b60012000_0 : (List (List GValue))) : St := ⟨[(0, (.d (.sl 1 (p0.map (cSl 3 cGValue))))), (3, (.tre 60012000)), (4, (vI x4))], [(60012000, [(.trs 1 (b60012000_0.map (cSl 3 cGValue)))])]⟩
abbrev mosL5Rows_X_L0 := fun p0 x4 b60012000_0 r => avc Try.prog acsL5Rows_X_L0 (qsL5Rows_X_1 r) (stsL5Rows_X_L0 p0 x4 b60012000_0)
theorem koGValue (x : GValue) (h : ∀ d ∈ cGValue x, OkD d) : okGValue x := ⟨ko_i _ (ko_sub h 0 1), ko_i _ (ko_sub h 1 1), ko_s _ (ko_sub h 2 1)⟩
theorem koGL1Cur (x : GL1Cur) (h : ∀ d ∈ cGL1Cur x, OkD d) : okGL1Cur x := ⟨ko_l _ (fun y hy => ko_u8 _ hy) (ko_sub h 0 1), ko_i _ (ko_sub h 1 1), ko_i _ (ko_sub h 2 1)⟩
theorem de5 {l : List D} (h : WtC Try.prog 5 l) : ∃ x : Int, l = cU8 x := (wt_i h (k := .u8) (by kernel_rfl))
theorem de22 {l : List D} (h : WtC Try.prog 22 l) : ∃ x : (List Int), l = (cSl 1 cU8) x := (wt_sl h (e := 5) (n := 1) (c := cU8) (by kernel_rfl) (by kernel_rfl) fun x hx => de5 hx)
theorem OKs_gSlices_Equal_Simpl_Value_impl_Value_L0 (p0) (p1) : (∀ x13 r, gSlices_Equal_Simpl_Value_impl_Value_L0 p0 p1 x13 = some r → mogSlices_Equal_Simpl_Value_impl_Value_L0 p0 p1 x13 r) := by
 refine gSlices_Equal_Simpl_Value_impl_Value_L0.partial_correctness p0 p1 (fun x13 r => mogSlices_Equal_Simpl_Value_impl_Value_L0 p0 p1 x13 r) ?_
 · intro F_gSlices_Equal_Simpl_Value_impl_Value_L0 OK_gSlices_Equal_Simpl_Value_impl_Value_L0 x13 r h
   delta mogSlices_Equal_Simpl_Value_impl_Value_L0 acgSlices_Equal_Simpl_Value_impl_Value_L0
   refine loop_unroll (si (oi (sx 1 (ni (xi (si ?_))))))
   refine cd h (fun h => ?_) fun h => ?_
   refine ki (xi (si (bi (si (oi (sx 2 (ni (xi (si (dops_in (dsx 2 (diq h fun y1 h => (dsx 3 (diq h fun y2 h => (dsx 2 (dnil_in (by kernel_rfl) (by kernel_rfl) (xi ?_)))))))))))))))))
   refine cd h (fun h => ?_) fun h => ?_
   refine si (oi (sx 1 (ni (xi (ri (br (tr (tr (br (tr ?_))))))))))
   injection h with h; subst h
   exact rp
   exact ki (bn (xi (oi (sx 2 (ni (lbs (OK_gSlices_Equal_Simpl_Value_impl_Value_L0 _ _ h) (wr [] eS br_nil)))))))
   refine ei (te (te (bh (xi (si (oi (sx 1 (ni (xi (ri ?_))))))))))
   injection h with h; subst h
   exact rp
theorem OK_gSlices_Equal_Simpl_Value_impl_Value_L0 (p0 p1 x13 r) (h : gSlices_Equal_Simpl_Value_impl_Value_L0 p0 p1 x13 = some r) : mogSlices_Equal_Simpl_Value_impl_Value_L0 p0 p1 x13 r := (OKs_gSlices_Equal_Simpl_Value_impl_Value_L0 p0 p1) x13 r h
theorem OK_gSlices_Equal_Simpl_Value_impl_Value (p0 : (List GValue)) (p1 : (List GValue)) : FOk Try.prog 14 [(.d (.sl 3 (p0.map cGValue))), (.d (.sl 3 (p1.map cGValue)))] (fun y => (vB y)) (gSlices_Equal_Simpl_Value_impl_Value p0 p1) := by
 intro r h
 rw [gSlices_Equal_Simpl_Value_impl_Value] at h
 refine ao trgSlices_Equal_Simpl_Value_impl_Value (si (oi (sx 1 (ni (xi (si (si (oi (sx 1 (lq p0 (sx 1 (lq p1 (sx 1 (ni (xi ?_)))))))))))))))
 refine cd h (fun h => ?_) fun h => ?_
 refine si (oi (sx 1 (ni (xi (ri (tr ?_))))))
 injection h with h; subst h
 exact rp
 exact ki (xi (si (si (oi (sx 1 (lq p0 (sx 1 (ni (xi (bi (lgs (OK_gSlices_Equal_Simpl_Value_impl_Value_L0 _ _ _ _ h) (wr [] eS br_nil))))))))))))
theorem OKs_gSlices_EqualFunc_SSimpl_Value_SSimpl_Value_Simpl_Value_Simpl_Value_gSlices_Equal_Simpl_Value_impl_Value_L0 (p1) (p0) : (∀ x17 r, gSlices_EqualFunc_SSimpl_Value_SSimpl_Value_Simpl_Value_Simpl_Value_gSlices_Equal_Simpl_Value_impl_Value_L0 p1 p0 x17 = some r → mogSlices_EqualFunc_SSimpl_Value_SSimpl_Value_Simpl_Value_Simpl_Value_gSlices_Equal_Simpl_Value_impl_Value_L0 p1 p0 x17 r) := by
 refine gSlices_EqualFunc_SSimpl_Value_SSimpl_Value_Simpl_Value_Simpl_Value_gSlices_Equal_Simpl_Value_impl_Value_L0.partial_correctness p1 p0 (fun x17 r => mogSlices_EqualFunc_SSimpl_Value_SSimpl_Value_Simpl_Value_Simpl_Value_gSlices_Equal_Simpl_Value_impl_Value_L0 p1 p0 x17 r) ?_
 · intro F_gSlices_EqualFunc_SSimpl_Value_SSimpl_Value_Simpl_Value_Simpl_Value_gSlices_Equal_Simpl_Value_impl_Value_L0 OK_gSlices_EqualFunc_SSimpl_Value_SSimpl_Value_Simpl_Value_Simpl_Value_gSlices_Equal_Simpl_Value_impl_Value_L0 x17 r h
   delta mogSlices_EqualFunc_SSimpl_Value_SSimpl_Value_Simpl_Value_Simpl_Value_gSlices_Equal_Simpl_Value_impl_Value_L0 acgSlices_EqualFunc_SSimpl_Value_SSimpl_Value_Simpl_Value_Simpl_Value_gSlices_Equal_Simpl_Value_impl_Value_L0
   refine loop_unroll (si (oi (sx 1 (ni (xi (si ?_))))))
   refine cd h (fun h => ?_) fun h => ?_
   refine ki (xi (si (bi (si (oi (sx 1 (iq h fun y1 h => (sx 3 (ni (xi (si (oi (sx 2 (iq h fun y2 h => (sx 2 (ni (xi (si (oi (sx 3 ?_))))))))))))))))))))
   refine callv_step (m := gSlices_Equal_Simpl_Value_impl_Value y1 y2) (caps := []) (args := [(.d (.sl 3 (y1.map cGValue))), (.d (.sl 3 (y2.map cGValue)))]) (v' := (fun y => (vB y))) h (by kernel_rfl) (by kernel_rfl) (OK_gSlices_Equal_Simpl_Value_impl_Value _ _) (by kernel_rfl) (by kernel_rfl) (fun _ => rfl) fun y3 h => (sx 1 (ni (xi ?_)))
   refine cd h (fun h => ?_) fun h => ?_
   refine si (oi (sx 1 (ni (xi (ri (br (tr (tr (br (tr ?_))))))))))
   injection h with h; subst h
   exact rp
   exact ki (bn (xi (oi (sx 2 (ni (lbs (OK_gSlices_EqualFunc_SSimpl_Value_SSimpl_Value_Simpl_Value_Simpl_Value_gSlices_Equal_Simpl_Value_impl_Value_L0 _ _ h) (wr [] eS br_nil)))))))
   refine ei (te (te (bh (xi (si (oi (sx 1 (ni (xi (ri ?_))))))))))
   injection h with h; subst h
   exact rp
theorem OK_gSlices_EqualFunc_SSimpl_Value_SSimpl_Value_Simpl_Value_Simpl_Value_gSlices_Equal_Simpl_Value_impl_Value_L0 (p1 p0 x17 r) (h : gSlices_EqualFunc_SSimpl_Value_SSimpl_Value_Simpl_Value_Simpl_Value_gSlices_Equal_Simpl_Value_impl_Value_L0 p1 p0 x17 = some r) : mogSlices_EqualFunc_SSimpl_Value_SSimpl_Value_Simpl_Value_Simpl_Value_gSlices_Equal_Simpl_Value_impl_Value_L0 p1 p0 x17 r := (OKs_gSlices_EqualFunc_SSimpl_Value_SSimpl_Value_Simpl_Value_Simpl_Value_gSlices_Equal_Simpl_Value_impl_Value_L0 p1 p0) x17 r h
theorem OK_gSlices_EqualFunc_SSimpl_Value_SSimpl_Value_Simpl_Value_Simpl_Value_gSlices_Equal_Simpl_Value_impl_Value (p0 : (List (List GValue))) (p1 : (List (List GValue))) : FOk Try.prog 13 [(.d (.sl 1 (p0.map (cSl 3 cGValue)))), (.d (.sl 1 (p1.map (cSl 3 cGValue)))), (.fn 14 [])] (fun y => (vB y)) (gSlices_EqualFunc_SSimpl_Value_SSimpl_Value_Simpl_Value_Simpl_Value_gSlices_Equal_Simpl_Value_impl_Value p0 p1) := by
 intro r h
 rw [gSlices_EqualFunc_SSimpl_Value_SSimpl_Value_Simpl_Value_Simpl_Value_gSlices_Equal_Simpl_Value_impl_Value] at h
 refine ao trgSlices_EqualFunc_SSimpl_Value_SSimpl_Value_Simpl_Value_Simpl_Value_gSlices_Equal_Simpl_Value_impl_Value (si (oi (sx 1 (ni (xi (si (si (oi (sx 1 (lq p0 (sx 1 (lq p1 (sx 1 (ni (xi ?_)))))))))))))))
 refine cd h (fun h => ?_) fun h => ?_
 refine si (oi (sx 1 (ni (xi (ri (tr ?_))))))
 injection h with h; subst h
 exact rp
 exact ki (xi (si (si (oi (sx 1 (lq p0 (sx 1 (ni (xi (bi (lgs (OK_gSlices_EqualFunc_SSimpl_Value_SSimpl_Value_Simpl_Value_Simpl_Value_gSlices_Equal_Simpl_Value_impl_Value_L0 _ _ _ _ h) (wr [] eS br_nil))))))))))))
theorem OK_iSameRows (p0 : (List (List GValue))) (p1 : (List (List GValue))) : FOk Try.prog 8 [(.d (.sl 1 (p0.map (cSl 3 cGValue)))), (.d (.sl 1 (p1.map (cSl 3 cGValue))))] (fun y => (vB y)) (iSameRows p0 p1) := by
 intro r h
 rw [iSameRows] at h
 refine ao triSameRows (si (oi (sx 1 (ni (xi (si (oi (sx 2 (cs h (OK_gSlices_EqualFunc_SSimpl_Value_SSimpl_Value_Simpl_Value_Simpl_Value_gSlices_Equal_Simpl_Value_impl_Value _ _) fun y1 h => (sx 1 (ni (xi (ri ?_)))))))))))))
 injection h with h; subst h
 exact rp
theorem OK_gCmp_isNaN_int (p0 : Int) : FOk Try.prog 45 [(vI p0)] (fun y => (vB y)) (gCmp_isNaN_int p0) := by
 intro r h
 rw [gCmp_isNaN_int] at h
 refine ao trgCmp_isNaN_int (si (oi (sx 1 (ni (xi (si (oi (sx 4 (ni (xi (ri ?_)))))))))))
 injection h with h; subst h
 exact rp
theorem OK_gCmp_Compare_int (p0 : Int) (p1 : Int) : FOk Try.prog 41 [(vI p0), (vI p1)] (fun y => (vI y)) (gCmp_Compare_int p0 p1) := by
 intro r h
 rw [gCmp_Compare_int] at h
 refine ao trgCmp_Compare_int (si (oi (sx 1 (ni (xi (si (oi (sx 1 (cs h (OK_gCmp_isNaN_int _) fun y1 h => (sx 1 (ni (xi (si (oi (sx 1 (cs h (OK_gCmp_isNaN_int _) fun y2 h => (sx 1 (ni (xi (si (si (oi (sx 1 (ni (xi ?_)))))))))))))))))))))))))
 refine cd h (fun h => ?_) fun h => ?_
 refine si (si (oi (sx 1 (ni (xi ?_)))))
 refine cd h (fun h => ?_) fun h => ?_
 refine si (oi (sx 1 (ni (xi (ri (tr (tr ?_)))))))
 injection h with h; subst h
 exact rp
 refine ki (xi (si (oi (sx 1 (ni (xi (ri (tr ?_))))))))
 injection h with h; subst h
 exact rp
 refine ki (xi (si (si (oi (sx 1 (ni (xi ?_)))))))
 refine cd h (fun h => ?_) fun h => ?_
 refine si (oi (sx 1 (ni (xi (ri (tr ?_))))))
 injection h with h; subst h
 exact rp
 refine ki (xi (si (si (oi (sx 3 (ni (xi ?_)))))))
 refine cd h (fun h => ?_) fun h => ?_
 refine si (oi (sx 1 (ni (xi (ri (tr ?_))))))
 injection h with h; subst h
 exact rp
 refine ki (xi (si (si (oi (sx 3 (ni (xi ?_)))))))
 refine cd h (fun h => ?_) fun h => ?_
 refine si (oi (sx 1 (ni (xi (ri (tr ?_))))))
 injection h with h; subst h
 exact rp
 refine ki (xi (si (oi (sx 1 (ni (xi (ri ?_)))))))
 injection h with h; subst h
 exact rp
theorem OK_gCmp_isNaN_string (p0 : (List UInt8)) : FOk Try.prog 46 [(vS p0)] (fun y => (vB y)) (gCmp_isNaN_string p0) := by
 intro r h
 rw [gCmp_isNaN_string] at h
 refine ao trgCmp_isNaN_string (si (oi (sx 1 (ni (xi (si (oi (sx 4 (ni (xi (ri ?_)))))))))))
 injection h with h; subst h
 exact rp
theorem OK_gCmp_Compare_string (p0 : (List UInt8)) (p1 : (List UInt8)) : FOk Try.prog 42 [(vS p0), (vS p1)] (fun y => (vI y)) (gCmp_Compare_string p0 p1) := by
 intro r h
 rw [gCmp_Compare_string] at h
 refine ao trgCmp_Compare_string (si (oi (sx 1 (ni (xi (si (oi (sx 1 (cs h (OK_gCmp_isNaN_string _) fun y1 h => (sx 1 (ni (xi (si (oi (sx 1 (cs h (OK_gCmp_isNaN_string _) fun y2 h => (sx 1 (ni (xi (si (si (oi (sx 1 (ni (xi ?_)))))))))))))))))))))))))
 refine cd h (fun h => ?_) fun h => ?_
 refine si (si (oi (sx 1 (ni (xi ?_)))))
 refine cd h (fun h => ?_) fun h => ?_
 refine si (oi (sx 1 (ni (xi (ri (tr (tr ?_)))))))
 injection h with h; subst h
 exact rp
 refine ki (xi (si (oi (sx 1 (ni (xi (ri (tr ?_))))))))
 injection h with h; subst h
 exact rp
 refine ki (xi (si (si (oi (sx 1 (ni (xi ?_)))))))
 refine cd h (fun h => ?_) fun h => ?_
 refine si (oi (sx 1 (ni (xi (ri (tr ?_))))))
 injection h with h; subst h
 exact rp
 refine ki (xi (si (si (oi (sx 3 (ni (xi ?_)))))))
 refine cd h (fun h => ?_) fun h => ?_
 refine si (oi (sx 1 (ni (xi (ri (tr ?_))))))
 injection h with h; subst h
 exact rp
 refine ki (xi (si (si (oi (sx 3 (ni (xi ?_)))))))
 refine cd h (fun h => ?_) fun h => ?_
 refine si (oi (sx 1 (ni (xi (ri (tr ?_))))))
 injection h with h; subst h
 exact rp
 refine ki (xi (si (oi (sx 1 (ni (xi (ri ?_)))))))
 injection h with h; subst h
 exact rp
theorem OKs_gCmp_Or_int_L0 (p0) : (∀ x8 r, gCmp_Or_int_L0 p0 x8 = some r → mogCmp_Or_int_L0 p0 x8 r) := by
 refine gCmp_Or_int_L0.partial_correctness p0 (fun x8 r => mogCmp_Or_int_L0 p0 x8 r) ?_
 · intro F_gCmp_Or_int_L0 OK_gCmp_Or_int_L0 x8 r h
   delta mogCmp_Or_int_L0 acgCmp_Or_int_L0
   refine loop_unroll (si (oi (sx 1 (ni (xi (si ?_))))))
   refine cd h (fun h => ?_) fun h => ?_
   refine ki (xi (si (bi (si (oi (iqf cI h fun y1 h => (sx 2 (ni (xi (si (oi (sx 3 (ni (xi ?_))))))))))))))
   refine cd h (fun h => ?_) fun h => ?_
   refine si (oi (sx 2 (ni (xi (ri (br (tr (tr (br (tr ?_))))))))))
   injection h with h; subst h
   exact rp
   exact ki (bn (xi (oi (sx 2 (ni (lbs (OK_gCmp_Or_int_L0 _ _ h) (wr [] eS br_nil)))))))
   refine ei (te (te (bh (xi (si (oi (sx 2 (ni (xi (ri ?_))))))))))
   injection h with h; subst h
   exact rp
theorem OK_gCmp_Or_int_L0 (p0 x8 r) (h : gCmp_Or_int_L0 p0 x8 = some r) : mogCmp_Or_int_L0 p0 x8 r := (OKs_gCmp_Or_int_L0 p0) x8 r h
theorem OK_gCmp_Or_int (p0 : (List Int)) : FOk Try.prog 40 [(.d (.sl 1 (p0.map cI)))] (fun y => (vI y)) (gCmp_Or_int p0) := by
 intro r h
 rw [gCmp_Or_int] at h
 exact ao trgCmp_Or_int (si (oi (sx 1 (ni (xi (si (oi (sx 1 (ni (xi (si (si (oi (sx 1 (lqf cI p0 (sx 1 (ni (xi (bi (lgs (OK_gCmp_Or_int_L0 _ _ _ h) (wr [] eS br_nil)))))))))))))))))))))
theorem OK_iOrder (p0 : GValue) (p1 : GValue) : FOk Try.prog 31 [(vGValue p0), (vGValue p1)] (fun y => (vI y)) (iOrder p0 p1) := by
 intro r h
 rw [iOrder] at h
 refine ao triOrder (si (oi (sx 3 (ni (xi (si (dops_in (dsx 4 (dcs h (OK_gCmp_Compare_int _ _) fun y1 h => (dsx 4 (dcs h (OK_gCmp_Compare_int _ _) fun y2 h => (dsx 4 (dcs h (OK_gCmp_Compare_string _ _) fun y3 h => (dbsl_step (l := ([y1, y2, y3] : List Int)) (f := cI) (g := cI) (by kernel_rfl) (fun _ => rfl) (dcs h (OK_gCmp_Or_int _) fun y4 h => (dsx 1 (dnil_in (by kernel_rfl) (by kernel_rfl) (xi (ri ?_)))))))))))))))))))
 injection h with h; subst h
 exact rp
theorem OKs_gSlices_CompareFunc_Simpl_Value_Simpl_Value_impl_Value_impl_Value_iOrder_L0 (p0) (p1) : (∀ x13 r, gSlices_CompareFunc_Simpl_Value_Simpl_Value_impl_Value_impl_Value_iOrder_L0 p0 p1 x13 = some r → mogSlices_CompareFunc_Simpl_Value_Simpl_Value_impl_Value_impl_Value_iOrder_L0 p0 p1 x13 r) := by
 refine gSlices_CompareFunc_Simpl_Value_Simpl_Value_impl_Value_impl_Value_iOrder_L0.partial_correctness p0 p1 (fun x13 r => mogSlices_CompareFunc_Simpl_Value_Simpl_Value_impl_Value_impl_Value_iOrder_L0 p0 p1 x13 r) ?_
 · intro F_gSlices_CompareFunc_Simpl_Value_Simpl_Value_impl_Value_impl_Value_iOrder_L0 OK_gSlices_CompareFunc_Simpl_Value_Simpl_Value_impl_Value_impl_Value_iOrder_L0 x13 r h
   delta mogSlices_CompareFunc_Simpl_Value_Simpl_Value_impl_Value_impl_Value_iOrder_L0 acgSlices_CompareFunc_Simpl_Value_Simpl_Value_impl_Value_impl_Value_iOrder_L0
   refine loop_unroll (si (oi (sx 1 (ni (xi (si ?_))))))
   refine cd h (fun h => ?_) fun h => ?_
   refine ki (xi (si (bi (si (oi (sx 1 (iq h fun y1 h => (sx 4 (ni (xi (si (si (oi (sx 2 (lq p1 (sx 1 (ni (xi ?_))))))))))))))))))
   refine cd h (fun h => ?_) fun h => ?_
   refine si (oi (sx 1 (ni (xi (ri (tr (br (tr (tr (br (tr ?_)))))))))))
   injection h with h; subst h
   exact rp
   refine ki (xi (si (oi (sx 2 (iq h fun y2 h => (sx 3 (ni (xi (si (oi (sx 3 (callv_step (m := iOrder y1 y2) (caps := []) (args := [(vGValue y1), (vGValue y2)]) (v' := (fun y => (vI y))) h (by kernel_rfl) (by kernel_rfl) (OK_iOrder _ _) (by kernel_rfl) (by kernel_rfl) (fun _ => rfl) fun y3 h => (sx 1 (ni (xi (si (oi (sx 2 (ni (xi ?_))))))))))))))))))))
   refine cd h (fun h => ?_) fun h => ?_
   refine si (oi (sx 2 (ni (xi (ri (br (tr (tr (br (tr ?_))))))))))
   injection h with h; subst h
   exact rp
   exact ki (bn (xi (oi (sx 2 (ni (lbs (OK_gSlices_CompareFunc_Simpl_Value_Simpl_Value_impl_Value_impl_Value_iOrder_L0 _ _ h) (wr [] eS br_nil)))))))
   refine ei (te (te (bh (xi (si (si (oi (sx 1 (lq p0 (sx 1 (lq p1 (sx 1 (ni (xi ?_))))))))))))))
   refine cd h (fun h => ?_) fun h => ?_
   refine si (oi (sx 1 (ni (xi (ri (tr ?_))))))
   injection h with h; subst h
   exact rp
   refine ki (xi (si (oi (sx 1 (ni (xi (ri ?_)))))))
   injection h with h; subst h
   exact rp
theorem OK_gSlices_CompareFunc_Simpl_Value_Simpl_Value_impl_Value_impl_Value_iOrder_L0 (p0 p1 x13 r) (h : gSlices_CompareFunc_Simpl_Value_Simpl_Value_impl_Value_impl_Value_iOrder_L0 p0 p1 x13 = some r) : mogSlices_CompareFunc_Simpl_Value_Simpl_Value_impl_Value_impl_Value_iOrder_L0 p0 p1 x13 r := (OKs_gSlices_CompareFunc_Simpl_Value_Simpl_Value_impl_Value_impl_Value_iOrder_L0 p0 p1) x13 r h
theorem OK_gSlices_CompareFunc_Simpl_Value_Simpl_Value_impl_Value_impl_Value_iOrder (p0 : (List GValue)) (p1 : (List GValue)) : FOk Try.prog 30 [(.d (.sl 3 (p0.map cGValue))), (.d (.sl 3 (p1.map cGValue))), (.fn 31 [])] (fun y => (vI y)) (gSlices_CompareFunc_Simpl_Value_Simpl_Value_impl_Value_impl_Value_iOrder p0 p1) := by
 intro r h
 rw [gSlices_CompareFunc_Simpl_Value_Simpl_Value_impl_Value_impl_Value_iOrder] at h
 refine ao trgSlices_CompareFunc_Simpl_Value_Simpl_Value_impl_Value_impl_Value_iOrder (si (oi (sx 1 (ni (xi (si (si (oi (sx 1 (lq p0 (sx 1 (ni (xi (bi ?_))))))))))))))
 exact lgs (OK_gSlices_CompareFunc_Simpl_Value_Simpl_Value_impl_Value_impl_Value_iOrder_L0 _ _ _ _ h) (wr [] eS br_nil)
theorem OK_iOrderRow (p0 : (List GValue)) (p1 : (List GValue)) : FOk Try.prog 21 [(.d (.sl 3 (p0.map cGValue))), (.d (.sl 3 (p1.map cGValue)))] (fun y => (vI y)) (iOrderRow p0 p1) := by
 intro r h
 rw [iOrderRow] at h
 refine ao triOrderRow (si (oi (sx 1 (ni (xi (si (oi (sx 2 (cs h (OK_gSlices_CompareFunc_Simpl_Value_Simpl_Value_impl_Value_impl_Value_iOrder _ _) fun y1 h => (sx 1 (ni (xi (ri ?_)))))))))))))
 injection h with h; subst h
 exact rp
theorem OKs_gSlices_insertionSortCmpFunc_Simpl_Value_iOrderRow_L1 (p1) (p2) : (∀ x8 x9 b3000000_0_1 r, gSlices_insertionSortCmpFunc_Simpl_Value_iOrderRow_L1 p1 p2 x8 x9 b3000000_0_1 = some r → mogSlices_insertionSortCmpFunc_Simpl_Value_iOrderRow_L1 p1 p2 x8 x9 b3000000_0_1 r) ∧ (∀ x8 b3000000_0 r, gSlices_insertionSortCmpFunc_Simpl_Value_iOrderRow_L0 p1 p2 x8 b3000000_0 = some r → mogSlices_insertionSortCmpFunc_Simpl_Value_iOrderRow_L0 p1 p2 x8 b3000000_0 r) := by
 refine gSlices_insertionSortCmpFunc_Simpl_Value_iOrderRow_L1.mutual_partial_correctness p1 p2 (fun x8 x9 b3000000_0_1 r => mogSlices_insertionSortCmpFunc_Simpl_Value_iOrderRow_L1 p1 p2 x8 x9 b3000000_0_1 r) (fun x8 b3000000_0 r => mogSlices_insertionSortCmpFunc_Simpl_Value_iOrderRow_L0 p1 p2 x8 b3000000_0 r) ?_ ?_
 · intro F_gSlices_insertionSortCmpFunc_Simpl_Value_iOrderRow_L1 F_gSlices_insertionSortCmpFunc_Simpl_Value_iOrderRow_L0 OK_gSlices_insertionSortCmpFunc_Simpl_Value_iOrderRow_L1 OK_gSlices_insertionSortCmpFunc_Simpl_Value_iOrderRow_L0 x8 x9 b3000000_0_1 r h
   delta mogSlices_insertionSortCmpFunc_Simpl_Value_iOrderRow_L1 acgSlices_insertionSortCmpFunc_Simpl_Value_iOrderRow_L1
   refine loop_unroll (si (si (dops_in (dsx 4 (dgq 0 (dgq 0 (dgq 0 ?_)))))))
   refine dgv_step (p := true) (b := (decide (p1 < x9))) (m := idx b3000000_0_1 x9) (dflt := default) (v' := fun y => (.trp 3000000 1 (x9).toNat 0)) h (by kernel_rfl) rfl rfl (fun y hy hc => vop_iaS (n := 3000000) (l := b3000000_0_1) (f := (cSl 3 cGValue)) (k := .i64) (i := x9) hy (by kernel_rfl) (Eq.trans (b := ([(true && ((decide (p1 < x9)) == true)), (true && ((decide (p1 < x9)) == true))] : List Bool).all id) (by kernel_rfl) (all_c hc (all_c hc rfl))) (by kernel_rfl) (by kernel_rfl)) fun y2 h => ?_
   refine dgv_step (p := true) (b := (decide (p1 < x9))) (m := idx b3000000_0_1 x9) (dflt := default) (v' := fun y => (.d (.sl 3 (y.map cGValue)))) h (by kernel_rfl) rfl rfl (fun y hy hc => vop_ldS (off := 0) (n := 3000000) (sz := 1) (l := b3000000_0_1) (f := (cSl 3 cGValue)) (g := (cSl 3 cGValue)) (j := x9) hy (fun _ => rfl) (by kernel_rfl) (Eq.trans (b := ([(true && ((decide (p1 < x9)) == true))] : List Bool).all id) (by kernel_rfl) (all_c hc rfl)) (by kernel_rfl) (by kernel_rfl)) fun y3 h => ?_
   refine dgq 0 (dgq 0 (dgq 1 ?_))
   refine dgv_step (p := true) (b := (decide (p1 < x9))) (m := idx b3000000_0_1 (IntKind.wrap .i64 (x9 - 1))) (dflt := default) (v' := fun y => (.trp 3000000 1 ((IntKind.wrap .i64 (x9 - 1))).toNat 0)) h (by kernel_rfl) rfl rfl (fun y hy hc => vop_iaS (n := 3000000) (l := b3000000_0_1) (f := (cSl 3 cGValue)) (k := .i64) (i := (IntKind.wrap .i64 (x9 - 1))) hy (by kernel_rfl) (Eq.trans (b := ([(true && ((decide (p1 < x9)) == true)), (true && ((decide (p1 < x9)) == true))] : List Bool).all id) (by kernel_rfl) (all_c hc (all_c hc rfl))) (by kernel_rfl) (by kernel_rfl)) fun y4 h => ?_
   refine dgv_step (p := true) (b := (decide (p1 < x9))) (m := idx b3000000_0_1 (IntKind.wrap .i64 (x9 - 1))) (dflt := default) (v' := fun y => (.d (.sl 3 (y.map cGValue)))) h (by kernel_rfl) rfl rfl (fun y hy hc => vop_ldS (off := 0) (n := 3000000) (sz := 1) (l := b3000000_0_1) (f := (cSl 3 cGValue)) (g := (cSl 3 cGValue)) (j := (IntKind.wrap .i64 (x9 - 1))) hy (fun _ => rfl) (by kernel_rfl) (Eq.trans (b := ([(true && ((decide (p1 < x9)) == true))] : List Bool).all id) (by kernel_rfl) (all_c hc rfl)) (by kernel_rfl) (by kernel_rfl)) fun y5 h => ?_
   refine dgcallv_step (p := true) (b := (decide (p1 < x9))) (m := iOrderRow y3 y5) (dflt := default) (args := [(.d (.sl 3 (y3.map cGValue))), (.d (.sl 3 (y5.map cGValue)))]) (v' := (fun y => (vI y))) h (by kernel_rfl) (by kernel_rfl) (by kernel_rfl) (OK_iOrderRow _ _) (fun hc => by kernel_rfl) (by kernel_rfl) (fun _ => rfl) (fun hc => (Eq.trans (b := ([(true && ((decide (p1 < x9)) == true)), (true && ((decide (p1 < x9)) == true)), (true && ((decide (p1 < x9)) == true))] : List Bool).all id) (by kernel_rfl) (all_c hc (all_c hc (all_c hc rfl))))) fun y6 h => ?_
   refine dgq 1 (dpkA h fun y7 h => (dnil_in (by kernel_rfl) (by kernel_rfl) (xi ?_)))
   refine cd h (fun h => ?_) fun h => ?_
   refine ki (xi (si (bi (dops_in (dsx 8 (dv_step (m := idx b3000000_0_1 (IntKind.wrap .i64 (x9 - 1))) (v' := fun y => (.trp 3000000 1 ((IntKind.wrap .i64 (x9 - 1))).toNat 0)) h rfl rfl (fun y hy => vop_iaS (n := 3000000) (l := b3000000_0_1) (f := (cSl 3 cGValue)) (k := .i64) (i := (IntKind.wrap .i64 (x9 - 1))) hy (by kernel_rfl) (by kernel_rfl) (by kernel_rfl) (by kernel_rfl)) fun y8 h => ?_))))))
   refine dv_step (m := idx b3000000_0_1 (IntKind.wrap .i64 (x9 - 1))) (v' := fun y => (.d (.sl 3 (y.map cGValue)))) h rfl rfl (fun y hy => vop_ldS (off := 0) (n := 3000000) (sz := 1) (l := b3000000_0_1) (f := (cSl 3 cGValue)) (g := (cSl 3 cGValue)) (j := (IntKind.wrap .i64 (x9 - 1))) hy (fun _ => rfl) (by kernel_rfl) (by kernel_rfl) (by kernel_rfl) (by kernel_rfl)) fun y9 h => (dsx 2 ?_)
   refine dv_step (m := idx b3000000_0_1 x9) (v' := fun y => (.trp 3000000 1 (x9).toNat 0)) h rfl rfl (fun y hy => vop_iaS (n := 3000000) (l := b3000000_0_1) (f := (cSl 3 cGValue)) (k := .i64) (i := x9) hy (by kernel_rfl) (by kernel_rfl) (by kernel_rfl) (by kernel_rfl)) fun y10 h => ?_
   refine dv_step (m := idx b3000000_0_1 x9) (v' := fun y => (.d (.sl 3 (y.map cGValue)))) h rfl rfl (fun y hy => vop_ldS (off := 0) (n := 3000000) (sz := 1) (l := b3000000_0_1) (f := (cSl 3 cGValue)) (g := (cSl 3 cGValue)) (j := x9) hy (fun _ => rfl) (by kernel_rfl) (by kernel_rfl) (by kernel_rfl) (by kernel_rfl)) fun y11 h => ?_
   refine dv_step (m := idx b3000000_0_1 x9) (v' := fun y => (.trp 3000000 1 (x9).toNat 0)) h rfl rfl (fun y hy => vop_iaS (n := 3000000) (l := b3000000_0_1) (f := (cSl 3 cGValue)) (k := .i64) (i := x9) hy (by kernel_rfl) (by kernel_rfl) (by kernel_rfl) (by kernel_rfl)) fun y12 h => ?_
   refine dstS_step (n := 3000000) (sz := 1) (l := b3000000_0_1) (f := (cSl 3 cGValue)) (j := x9) (v := y9) h (by kernel_rfl) (by kernel_rfl) (fun _ => rfl) (by kernel_rfl) (by kernel_rfl) (fun _ => rfl) fun y13 h => ?_
   refine dv_step (m := idx y13 (IntKind.wrap .i64 (x9 - 1))) (v' := fun y => (.trp 3000000 1 ((IntKind.wrap .i64 (x9 - 1))).toNat 0)) h rfl rfl (fun y hy => vop_iaS (n := 3000000) (l := y13) (f := (cSl 3 cGValue)) (k := .i64) (i := (IntKind.wrap .i64 (x9 - 1))) hy (by kernel_rfl) (by kernel_rfl) (by kernel_rfl) (by kernel_rfl)) fun y14 h => ?_
   refine dstS_step (n := 3000000) (sz := 1) (l := y13) (f := (cSl 3 cGValue)) (j := (IntKind.wrap .i64 (x9 - 1))) (v := y11) h (by kernel_rfl) (by kernel_rfl) (fun _ => rfl) (by kernel_rfl) (by kernel_rfl) (fun _ => rfl) fun y15 h => (dnil_in (by kernel_rfl) (by kernel_rfl) (bn (xi (oi (sx 3 (ni ?_))))))
   exact lbs (OK_gSlices_insertionSortCmpFunc_Simpl_Value_iOrderRow_L1 _ _ _ _ h) (wr [] eS bS)
   exact ei (te (te (bh (bn (xi (oi (sx 3 (ni (lbs (OK_gSlices_insertionSortCmpFunc_Simpl_Value_iOrderRow_L0 _ _ _ h) (wr [] eS bS))))))))))
 · intro F_gSlices_insertionSortCmpFunc_Simpl_Value_iOrderRow_L1 OK_gSlices_insertionSortCmpFunc_Simpl_Value_iOrderRow_L1 x8 b3000000_0 r h
   delta mogSlices_insertionSortCmpFunc_Simpl_Value_iOrderRow_L0 acgSlices_insertionSortCmpFunc_Simpl_Value_iOrderRow_L0
   refine loop_unroll (si (si (oi (sx 3 (ni (xi ?_))))))
   refine cd h (fun h => ?_) fun h => ?_
   exact ki (xi (si (bi (si (oi (sx 2 (ni (xi (bi (lgs (OK_gSlices_insertionSortCmpFunc_Simpl_Value_iOrderRow_L1 _ _ _ _ h) (wr [] eS bS)))))))))))
   refine ei (te (te (bh (retn_in ?_))))
   injection h with h; subst h
   exact r0b
theorem OK_gSlices_insertionSortCmpFunc_Simpl_Value_iOrderRow_L1 (p1 p2 x8 x9 b3000000_0_1 r) (h : gSlices_insertionSortCmpFunc_Simpl_Value_iOrderRow_L1 p1 p2 x8 x9 b3000000_0_1 = some r) : mogSlices_insertionSortCmpFunc_Simpl_Value_iOrderRow_L1 p1 p2 x8 x9 b3000000_0_1 r := (OKs_gSlices_insertionSortCmpFunc_Simpl_Value_iOrderRow_L1 p1 p2).1 x8 x9 b3000000_0_1 r h
theorem OK_gSlices_insertionSortCmpFunc_Simpl_Value_iOrderRow_L0 (p1 p2 x8 b3000000_0 r) (h : gSlices_insertionSortCmpFunc_Simpl_Value_iOrderRow_L0 p1 p2 x8 b3000000_0 = some r) : mogSlices_insertionSortCmpFunc_Simpl_Value_iOrderRow_L0 p1 p2 x8 b3000000_0 r := (OKs_gSlices_insertionSortCmpFunc_Simpl_Value_iOrderRow_L1 p1 p2).2 x8 b3000000_0 r h
theorem OK_gSlices_insertionSortCmpFunc_Simpl_Value_iOrderRow (p0 : (List (List GValue))) (p1 : Int) (p2 : Int) : FOkB Try.prog 38 [(.tre 3000000), (vI p1), (vI p2), (.fn 21 [])] [(3000000, [(.trs 1 (p0.map (cSl 3 cGValue)))])] (fun (y : (List (List GValue))) => (.tup [])) (fun (y : (List (List GValue))) => [(3000000, [(.trs 1 (y.map (cSl 3 cGValue)))])]) (gSlices_insertionSortCmpFunc_Simpl_Value_iOrderRow p0 p1 p2) := by
 intro r h
 rw [gSlices_insertionSortCmpFunc_Simpl_Value_iOrderRow] at h
 exact ao trgSlices_insertionSortCmpFunc_Simpl_Value_iOrderRow (si (oi (sx 3 (ni (xi (bi (lgs (OK_gSlices_insertionSortCmpFunc_Simpl_Value_iOrderRow_L0 _ _ _ _ _ h) (wr [] eS bS))))))))
theorem OKs_gSlices_swapRangeCmpFunc_Simpl_Value_iOrderRow_L0 (p1) (p2) (p3) : (∀ x10 b3000000_0 r, gSlices_swapRangeCmpFunc_Simpl_Value_iOrderRow_L0 p1 p2 p3 x10 b3000000_0 = some r → mogSlices_swapRangeCmpFunc_Simpl_Value_iOrderRow_L0 p1 p2 p3 x10 b3000000_0 r) := by
 refine gSlices_swapRangeCmpFunc_Simpl_Value_iOrderRow_L0.partial_correctness p1 p2 p3 (fun x10 b3000000_0 r => mogSlices_swapRangeCmpFunc_Simpl_Value_iOrderRow_L0 p1 p2 p3 x10 b3000000_0 r) ?_
 · intro F_gSlices_swapRangeCmpFunc_Simpl_Value_iOrderRow_L0 OK_gSlices_swapRangeCmpFunc_Simpl_Value_iOrderRow_L0 x10 b3000000_0 r h
   delta mogSlices_swapRangeCmpFunc_Simpl_Value_iOrderRow_L0 acgSlices_swapRangeCmpFunc_Simpl_Value_iOrderRow_L0
   refine loop_unroll (si (si (oi (sx 3 (ni (xi ?_))))))
   refine cd h (fun h => ?_) fun h => ?_
   refine ki (xi (si (bi (dops_in (dsx 12 (dv_step (m := idx b3000000_0 (IntKind.wrap .i64 (p2 + x10))) (v' := fun y => (.trp 3000000 1 ((IntKind.wrap .i64 (p2 + x10))).toNat 0)) h rfl rfl (fun y hy => vop_iaS (n := 3000000) (l := b3000000_0) (f := (cSl 3 cGValue)) (k := .i64) (i := (IntKind.wrap .i64 (p2 + x10))) hy (by kernel_rfl) (by kernel_rfl) (by kernel_rfl) (by kernel_rfl)) fun y1 h => ?_))))))
   refine dv_step (m := idx b3000000_0 (IntKind.wrap .i64 (p2 + x10))) (v' := fun y => (.d (.sl 3 (y.map cGValue)))) h rfl rfl (fun y hy => vop_ldS (off := 0) (n := 3000000) (sz := 1) (l := b3000000_0) (f := (cSl 3 cGValue)) (g := (cSl 3 cGValue)) (j := (IntKind.wrap .i64 (p2 + x10))) hy (fun _ => rfl) (by kernel_rfl) (by kernel_rfl) (by kernel_rfl) (by kernel_rfl)) fun y2 h => (dsx 4 ?_)
   refine dv_step (m := idx b3000000_0 (IntKind.wrap .i64 (p1 + x10))) (v' := fun y => (.trp 3000000 1 ((IntKind.wrap .i64 (p1 + x10))).toNat 0)) h rfl rfl (fun y hy => vop_iaS (n := 3000000) (l := b3000000_0) (f := (cSl 3 cGValue)) (k := .i64) (i := (IntKind.wrap .i64 (p1 + x10))) hy (by kernel_rfl) (by kernel_rfl) (by kernel_rfl) (by kernel_rfl)) fun y3 h => ?_
   refine dv_step (m := idx b3000000_0 (IntKind.wrap .i64 (p1 + x10))) (v' := fun y => (.d (.sl 3 (y.map cGValue)))) h rfl rfl (fun y hy => vop_ldS (off := 0) (n := 3000000) (sz := 1) (l := b3000000_0) (f := (cSl 3 cGValue)) (g := (cSl 3 cGValue)) (j := (IntKind.wrap .i64 (p1 + x10))) hy (fun _ => rfl) (by kernel_rfl) (by kernel_rfl) (by kernel_rfl) (by kernel_rfl)) fun y4 h => ?_
   refine dv_step (m := idx b3000000_0 (IntKind.wrap .i64 (p1 + x10))) (v' := fun y => (.trp 3000000 1 ((IntKind.wrap .i64 (p1 + x10))).toNat 0)) h rfl rfl (fun y hy => vop_iaS (n := 3000000) (l := b3000000_0) (f := (cSl 3 cGValue)) (k := .i64) (i := (IntKind.wrap .i64 (p1 + x10))) hy (by kernel_rfl) (by kernel_rfl) (by kernel_rfl) (by kernel_rfl)) fun y5 h => ?_
   refine dstS_step (n := 3000000) (sz := 1) (l := b3000000_0) (f := (cSl 3 cGValue)) (j := (IntKind.wrap .i64 (p1 + x10))) (v := y2) h (by kernel_rfl) (by kernel_rfl) (fun _ => rfl) (by kernel_rfl) (by kernel_rfl) (fun _ => rfl) fun y6 h => ?_
   refine dv_step (m := idx y6 (IntKind.wrap .i64 (p2 + x10))) (v' := fun y => (.trp 3000000 1 ((IntKind.wrap .i64 (p2 + x10))).toNat 0)) h rfl rfl (fun y hy => vop_iaS (n := 3000000) (l := y6) (f := (cSl 3 cGValue)) (k := .i64) (i := (IntKind.wrap .i64 (p2 + x10))) hy (by kernel_rfl) (by kernel_rfl) (by kernel_rfl) (by kernel_rfl)) fun y7 h => ?_
   refine dstS_step (n := 3000000) (sz := 1) (l := y6) (f := (cSl 3 cGValue)) (j := (IntKind.wrap .i64 (p2 + x10))) (v := y4) h (by kernel_rfl) (by kernel_rfl) (fun _ => rfl) (by kernel_rfl) (by kernel_rfl) (fun _ => rfl) fun y8 h => (dnil_in (by kernel_rfl) (by kernel_rfl) (bn (xi (oi (sx 3 (ni ?_))))))
   exact lbs (OK_gSlices_swapRangeCmpFunc_Simpl_Value_iOrderRow_L0 _ _ _ h) (wr [] eS bS)
   refine ei (te (te (bh (retn_in ?_))))
   injection h with h; subst h
   exact r0b
theorem OK_gSlices_swapRangeCmpFunc_Simpl_Value_iOrderRow_L0 (p1 p2 p3 x10 b3000000_0 r) (h : gSlices_swapRangeCmpFunc_Simpl_Value_iOrderRow_L0 p1 p2 p3 x10 b3000000_0 = some r) : mogSlices_swapRangeCmpFunc_Simpl_Value_iOrderRow_L0 p1 p2 p3 x10 b3000000_0 r := (OKs_gSlices_swapRangeCmpFunc_Simpl_Value_iOrderRow_L0 p1 p2 p3) x10 b3000000_0 r h
theorem OK_gSlices_swapRangeCmpFunc_Simpl_Value_iOrderRow (p0 : (List (List GValue))) (p1 : Int) (p2 : Int) (p3 : Int) : FOkB Try.prog 47 [(.tre 3000000), (vI p1), (vI p2), (vI p3), (.fn 21 [])] [(3000000, [(.trs 1 (p0.map (cSl 3 cGValue)))])] (fun (y : (List (List GValue))) => (.tup [])) (fun (y : (List (List GValue))) => [(3000000, [(.trs 1 (y.map (cSl 3 cGValue)))])]) (gSlices_swapRangeCmpFunc_Simpl_Value_iOrderRow p0 p1 p2 p3) := by
 intro r h
 rw [gSlices_swapRangeCmpFunc_Simpl_Value_iOrderRow] at h
 exact ao trgSlices_swapRangeCmpFunc_Simpl_Value_iOrderRow (si (oi (sx 1 (ni (xi (bi (lgs (OK_gSlices_swapRangeCmpFunc_Simpl_Value_iOrderRow_L0 _ _ _ _ _ _ h) (wr [] eS bS))))))))
theorem OKs_gSlices_rotateCmpFunc_Simpl_Value_iOrderRow_L0 (p2) : (∀ x10 x11 b3000000_0 r, gSlices_rotateCmpFunc_Simpl_Value_iOrderRow_L0 p2 x10 x11 b3000000_0 = some r → mogSlices_rotateCmpFunc_Simpl_Value_iOrderRow_L0 p2 x10 x11 b3000000_0 r) := by
 refine gSlices_rotateCmpFunc_Simpl_Value_iOrderRow_L0.partial_correctness p2 (fun x10 x11 b3000000_0 r => mogSlices_rotateCmpFunc_Simpl_Value_iOrderRow_L0 p2 x10 x11 b3000000_0 r) ?_
 · intro F_gSlices_rotateCmpFunc_Simpl_Value_iOrderRow_L0 OK_gSlices_rotateCmpFunc_Simpl_Value_iOrderRow_L0 x10 x11 b3000000_0 r h
   delta mogSlices_rotateCmpFunc_Simpl_Value_iOrderRow_L0 acgSlices_rotateCmpFunc_Simpl_Value_iOrderRow_L0
   refine loop_unroll (si (si (oi (sx 3 (ni (xi ?_))))))
   refine cd h (fun h => ?_) fun h => ?_
   refine ki (xi (bi (si (oi (sx 3 (ni (xi ?_)))))))
   refine cd h (fun h => ?_) fun h => ?_
   refine si (oi (sx 7 (cg ⟨[(3000000, 3000000)], [], [], [], [], [], [], [], []⟩ h (OK_gSlices_swapRangeCmpFunc_Simpl_Value_iOrderRow _ _ _ _) fun y1 h => (ni (xi (oi (sx 4 (ni (bn ?_)))))))))
   exact lbs (OK_gSlices_rotateCmpFunc_Simpl_Value_iOrderRow_L0 _ _ _ _ h) (wr [] eS bS)
   refine si (oi (sx 11 (cg ⟨[(3000000, 3000000)], [], [], [], [], [], [], [], []⟩ h (OK_gSlices_swapRangeCmpFunc_Simpl_Value_iOrderRow _ _ _ _) fun y2 h => (ni (xi (oi (sx 4 (ni (bn ?_)))))))))
   exact lbs (OK_gSlices_rotateCmpFunc_Simpl_Value_iOrderRow_L0 _ _ _ _ h) (wr [] eS bS)
   refine ei (te (te (bh (xi (oi (sx 7 (cg ⟨[(3000000, 3000000)], [], [], [], [], [], [], [], []⟩ h (OK_gSlices_swapRangeCmpFunc_Simpl_Value_iOrderRow _ _ _ _) fun y3 h => (ni (retn_in ?_)))))))))
   injection h with h; subst h
   exact r0b
theorem OK_gSlices_rotateCmpFunc_Simpl_Value_iOrderRow_L0 (p2 x10 x11 b3000000_0 r) (h : gSlices_rotateCmpFunc_Simpl_Value_iOrderRow_L0 p2 x10 x11 b3000000_0 = some r) : mogSlices_rotateCmpFunc_Simpl_Value_iOrderRow_L0 p2 x10 x11 b3000000_0 r := (OKs_gSlices_rotateCmpFunc_Simpl_Value_iOrderRow_L0 p2) x10 x11 b3000000_0 r h
theorem OK_gSlices_rotateCmpFunc_Simpl_Value_iOrderRow (p0 : (List (List GValue))) (p1 : Int) (p2 : Int) (p3 : Int) : FOkB Try.prog 44 [(.tre 3000000), (vI p1), (vI p2), (vI p3), (.fn 21 [])] [(3000000, [(.trs 1 (p0.map (cSl 3 cGValue)))])] (fun (y : (List (List GValue))) => (.tup [])) (fun (y : (List (List GValue))) => [(3000000, [(.trs 1 (y.map (cSl 3 cGValue)))])]) (gSlices_rotateCmpFunc_Simpl_Value_iOrderRow p0 p1 p2 p3) := by
 intro r h
 rw [gSlices_rotateCmpFunc_Simpl_Value_iOrderRow] at h
 exact ao trgSlices_rotateCmpFunc_Simpl_Value_iOrderRow (si (oi (sx 4 (ni (xi (si (oi (sx 4 (ni (xi (si (bi (lgs (OK_gSlices_rotateCmpFunc_Simpl_Value_iOrderRow_L0 _ _ _ _ _ h) (wr [] eS bS))))))))))))))
theorem OKs_gSlices_symMergeCmpFunc_Simpl_Value_iOrderRow_L3 (x10) : (∀ x13 b3000000_0 r, gSlices_symMergeCmpFunc_Simpl_Value_iOrderRow_L3 x10 x13 b3000000_0 = some r → mogSlices_symMergeCmpFunc_Simpl_Value_iOrderRow_L3 x10 x13 b3000000_0 r) := by
 refine gSlices_symMergeCmpFunc_Simpl_Value_iOrderRow_L3.partial_correctness x10 (fun x13 b3000000_0 r => mogSlices_symMergeCmpFunc_Simpl_Value_iOrderRow_L3 x10 x13 b3000000_0 r) ?_
 · intro F_gSlices_symMergeCmpFunc_Simpl_Value_iOrderRow_L3 OK_gSlices_symMergeCmpFunc_Simpl_Value_iOrderRow_L3 x13 b3000000_0 r h
   delta mogSlices_symMergeCmpFunc_Simpl_Value_iOrderRow_L3 acgSlices_symMergeCmpFunc_Simpl_Value_iOrderRow_L3
   refine loop_unroll (si (si (oi (sx 4 (ni (xi ?_))))))
   refine cd h (fun h => ?_) fun h => ?_
   refine ki (xi (si (bi (dops_in (dsx 8 (dv_step (m := idx b3000000_0 (IntKind.wrap .i64 (x13 + 1))) (v' := fun y => (.trp 3000000 1 ((IntKind.wrap .i64 (x13 + 1))).toNat 0)) h rfl rfl (fun y hy => vop_iaS (n := 3000000) (l := b3000000_0) (f := (cSl 3 cGValue)) (k := .i64) (i := (IntKind.wrap .i64 (x13 + 1))) hy (by kernel_rfl) (by kernel_rfl) (by kernel_rfl) (by kernel_rfl)) fun y14 h => ?_))))))
   refine dv_step (m := idx b3000000_0 (IntKind.wrap .i64 (x13 + 1))) (v' := fun y => (.d (.sl 3 (y.map cGValue)))) h rfl rfl (fun y hy => vop_ldS (off := 0) (n := 3000000) (sz := 1) (l := b3000000_0) (f := (cSl 3 cGValue)) (g := (cSl 3 cGValue)) (j := (IntKind.wrap .i64 (x13 + 1))) hy (fun _ => rfl) (by kernel_rfl) (by kernel_rfl) (by kernel_rfl) (by kernel_rfl)) fun y15 h => (dsx 2 ?_)
   refine dv_step (m := idx b3000000_0 x13) (v' := fun y => (.trp 3000000 1 (x13).toNat 0)) h rfl rfl (fun y hy => vop_iaS (n := 3000000) (l := b3000000_0) (f := (cSl 3 cGValue)) (k := .i64) (i := x13) hy (by kernel_rfl) (by kernel_rfl) (by kernel_rfl) (by kernel_rfl)) fun y16 h => ?_
   refine dv_step (m := idx b3000000_0 x13) (v' := fun y => (.d (.sl 3 (y.map cGValue)))) h rfl rfl (fun y hy => vop_ldS (off := 0) (n := 3000000) (sz := 1) (l := b3000000_0) (f := (cSl 3 cGValue)) (g := (cSl 3 cGValue)) (j := x13) hy (fun _ => rfl) (by kernel_rfl) (by kernel_rfl) (by kernel_rfl) (by kernel_rfl)) fun y17 h => ?_
   refine dv_step (m := idx b3000000_0 x13) (v' := fun y => (.trp 3000000 1 (x13).toNat 0)) h rfl rfl (fun y hy => vop_iaS (n := 3000000) (l := b3000000_0) (f := (cSl 3 cGValue)) (k := .i64) (i := x13) hy (by kernel_rfl) (by kernel_rfl) (by kernel_rfl) (by kernel_rfl)) fun y18 h => ?_
   refine dstS_step (n := 3000000) (sz := 1) (l := b3000000_0) (f := (cSl 3 cGValue)) (j := x13) (v := y15) h (by kernel_rfl) (by kernel_rfl) (fun _ => rfl) (by kernel_rfl) (by kernel_rfl) (fun _ => rfl) fun y19 h => ?_
   refine dv_step (m := idx y19 (IntKind.wrap .i64 (x13 + 1))) (v' := fun y => (.trp 3000000 1 ((IntKind.wrap .i64 (x13 + 1))).toNat 0)) h rfl rfl (fun y hy => vop_iaS (n := 3000000) (l := y19) (f := (cSl 3 cGValue)) (k := .i64) (i := (IntKind.wrap .i64 (x13 + 1))) hy (by kernel_rfl) (by kernel_rfl) (by kernel_rfl) (by kernel_rfl)) fun y20 h => ?_
   refine dstS_step (n := 3000000) (sz := 1) (l := y19) (f := (cSl 3 cGValue)) (j := (IntKind.wrap .i64 (x13 + 1))) (v := y17) h (by kernel_rfl) (by kernel_rfl) (fun _ => rfl) (by kernel_rfl) (by kernel_rfl) (fun _ => rfl) fun y21 h => (dnil_in (by kernel_rfl) (by kernel_rfl) (bn (xi (oi (sx 3 (ni ?_))))))
   exact lbs (OK_gSlices_symMergeCmpFunc_Simpl_Value_iOrderRow_L3 _ _ _ h) (wr [] eS bS)
   refine ei (te (te (bh (xi (ri (tr ?_))))))
   injection h with h; subst h
   exact r0b
theorem OK_gSlices_symMergeCmpFunc_Simpl_Value_iOrderRow_L3 (x10 x13 b3000000_0 r) (h : gSlices_symMergeCmpFunc_Simpl_Value_iOrderRow_L3 x10 x13 b3000000_0 = some r) : mogSlices_symMergeCmpFunc_Simpl_Value_iOrderRow_L3 x10 x13 b3000000_0 r := (OKs_gSlices_symMergeCmpFunc_Simpl_Value_iOrderRow_L3 x10) x13 b3000000_0 r h
theorem OKs_gSlices_symMergeCmpFunc_Simpl_Value_iOrderRow_L0 (p1) (p0) : (∀ x10 x11 r, gSlices_symMergeCmpFunc_Simpl_Value_iOrderRow_L0 p1 p0 x10 x11 = some r → mogSlices_symMergeCmpFunc_Simpl_Value_iOrderRow_L0 p1 p0 x10 x11 r) := by
 refine gSlices_symMergeCmpFunc_Simpl_Value_iOrderRow_L0.partial_correctness p1 p0 (fun x10 x11 r => mogSlices_symMergeCmpFunc_Simpl_Value_iOrderRow_L0 p1 p0 x10 x11 r) ?_
 · intro F_gSlices_symMergeCmpFunc_Simpl_Value_iOrderRow_L0 OK_gSlices_symMergeCmpFunc_Simpl_Value_iOrderRow_L0 x10 x11 r h
   delta mogSlices_symMergeCmpFunc_Simpl_Value_iOrderRow_L0 acgSlices_symMergeCmpFunc_Simpl_Value_iOrderRow_L0
   refine loop_unroll (si (si (oi (sx 3 (ni (xi ?_))))))
   refine cd h (fun h => ?_) fun h => ?_
   refine ki (xi (bi (si (oi (sx 7 (ni (xi (si (dops_in (dsx 3 ?_))))))))))
   refine dv_step (m := idx p0 (IntKind.wrap .i64 (Int.fdiv (IntKind.wrap .u64 (IntKind.wrap .i64 (x10 + x11))) (2 ^ 1)))) (v' := fun y => (.trp 3000000 1 ((IntKind.wrap .i64 (Int.fdiv (IntKind.wrap .u64 (IntKind.wrap .i64 (x10 + x11))) (2 ^ 1)))).toNat 0)) h rfl rfl (fun y hy => vop_iaS (n := 3000000) (l := p0) (f := (cSl 3 cGValue)) (k := .i64) (i := (IntKind.wrap .i64 (Int.fdiv (IntKind.wrap .u64 (IntKind.wrap .i64 (x10 + x11))) (2 ^ 1)))) hy (by kernel_rfl) (by kernel_rfl) (by kernel_rfl) (by kernel_rfl)) fun y1 h => ?_
   refine dv_step (m := idx p0 (IntKind.wrap .i64 (Int.fdiv (IntKind.wrap .u64 (IntKind.wrap .i64 (x10 + x11))) (2 ^ 1)))) (v' := fun y => (.d (.sl 3 (y.map cGValue)))) h rfl rfl (fun y hy => vop_ldS (off := 0) (n := 3000000) (sz := 1) (l := p0) (f := (cSl 3 cGValue)) (g := (cSl 3 cGValue)) (j := (IntKind.wrap .i64 (Int.fdiv (IntKind.wrap .u64 (IntKind.wrap .i64 (x10 + x11))) (2 ^ 1)))) hy (fun _ => rfl) (by kernel_rfl) (by kernel_rfl) (by kernel_rfl) (by kernel_rfl)) fun y2 h => ?_
   refine dsx 2 (dv_step (m := idx p0 p1) (v' := fun y => (.trp 3000000 1 (p1).toNat 0)) h rfl rfl (fun y hy => vop_iaS (n := 3000000) (l := p0) (f := (cSl 3 cGValue)) (k := .i64) (i := p1) hy (by kernel_rfl) (by kernel_rfl) (by kernel_rfl) (by kernel_rfl)) fun y3 h => ?_)
   refine dv_step (m := idx p0 p1) (v' := fun y => (.d (.sl 3 (y.map cGValue)))) h rfl rfl (fun y hy => vop_ldS (off := 0) (n := 3000000) (sz := 1) (l := p0) (f := (cSl 3 cGValue)) (g := (cSl 3 cGValue)) (j := p1) hy (fun _ => rfl) (by kernel_rfl) (by kernel_rfl) (by kernel_rfl) (by kernel_rfl)) fun y4 h => ?_
   refine dcallv_step (m := iOrderRow y2 y4) (caps := []) (args := [(.d (.sl 3 (y2.map cGValue))), (.d (.sl 3 (y4.map cGValue)))]) (v' := (fun y => (vI y))) h (by kernel_rfl) (by kernel_rfl) (OK_iOrderRow _ _) (by kernel_rfl) (by kernel_rfl) (fun _ => rfl) fun y5 h => (dsx 1 (dnil_in (by kernel_rfl) (by kernel_rfl) (xi ?_)))
   refine cd h (fun h => ?_) fun h => ?_
   exact oi (sx 3 (ni (bn (lbs (OK_gSlices_symMergeCmpFunc_Simpl_Value_iOrderRow_L0 _ _ _ h) (wr [] eS bS)))))
   exact oi (sx 2 (ni (bn (lbs (OK_gSlices_symMergeCmpFunc_Simpl_Value_iOrderRow_L0 _ _ _ h) (wr [] eS bS)))))
   exact ei (te (te (bh (xi (si (si (oi (sx 2 (ni (xi (bi (lgs (OK_gSlices_symMergeCmpFunc_Simpl_Value_iOrderRow_L3 _ _ _ _ h) (wr [] eS bS)))))))))))))
theorem OK_gSlices_symMergeCmpFunc_Simpl_Value_iOrderRow_L0 (p1 p0 x10 x11 r) (h : gSlices_symMergeCmpFunc_Simpl_Value_iOrderRow_L0 p1 p0 x10 x11 = some r) : mogSlices_symMergeCmpFunc_Simpl_Value_iOrderRow_L0 p1 p0 x10 x11 r := (OKs_gSlices_symMergeCmpFunc_Simpl_Value_iOrderRow_L0 p1 p0) x10 x11 r h
theorem OKs_gSlices_symMergeCmpFunc_Simpl_Value_iOrderRow_L4 (x14) : (∀ x17 b3000000_0_11 r, gSlices_symMergeCmpFunc_Simpl_Value_iOrderRow_L4 x14 x17 b3000000_0_11 = some r → mogSlices_symMergeCmpFunc_Simpl_Value_iOrderRow_L4 x14 x17 b3000000_0_11 r) := by
 refine gSlices_symMergeCmpFunc_Simpl_Value_iOrderRow_L4.partial_correctness x14 (fun x17 b3000000_0_11 r => mogSlices_symMergeCmpFunc_Simpl_Value_iOrderRow_L4 x14 x17 b3000000_0_11 r) ?_
 · intro F_gSlices_symMergeCmpFunc_Simpl_Value_iOrderRow_L4 OK_gSlices_symMergeCmpFunc_Simpl_Value_iOrderRow_L4 x17 b3000000_0_11 r h
   delta mogSlices_symMergeCmpFunc_Simpl_Value_iOrderRow_L4 acgSlices_symMergeCmpFunc_Simpl_Value_iOrderRow_L4
   refine loop_unroll (si (si (oi (sx 3 (ni (xi ?_))))))
   refine cd h (fun h => ?_) fun h => ?_
   refine ki (xi (si (bi (dops_in (dsx 8 (dv_step (m := idx b3000000_0_11 (IntKind.wrap .i64 (x17 - 1))) (v' := fun y => (.trp 3000000 1 ((IntKind.wrap .i64 (x17 - 1))).toNat 0)) h rfl rfl (fun y hy => vop_iaS (n := 3000000) (l := b3000000_0_11) (f := (cSl 3 cGValue)) (k := .i64) (i := (IntKind.wrap .i64 (x17 - 1))) hy (by kernel_rfl) (by kernel_rfl) (by kernel_rfl) (by kernel_rfl)) fun y22 h => ?_))))))
   refine dv_step (m := idx b3000000_0_11 (IntKind.wrap .i64 (x17 - 1))) (v' := fun y => (.d (.sl 3 (y.map cGValue)))) h rfl rfl (fun y hy => vop_ldS (off := 0) (n := 3000000) (sz := 1) (l := b3000000_0_11) (f := (cSl 3 cGValue)) (g := (cSl 3 cGValue)) (j := (IntKind.wrap .i64 (x17 - 1))) hy (fun _ => rfl) (by kernel_rfl) (by kernel_rfl) (by kernel_rfl) (by kernel_rfl)) fun y23 h => (dsx 2 ?_)
   refine dv_step (m := idx b3000000_0_11 x17) (v' := fun y => (.trp 3000000 1 (x17).toNat 0)) h rfl rfl (fun y hy => vop_iaS (n := 3000000) (l := b3000000_0_11) (f := (cSl 3 cGValue)) (k := .i64) (i := x17) hy (by kernel_rfl) (by kernel_rfl) (by kernel_rfl) (by kernel_rfl)) fun y24 h => ?_
   refine dv_step (m := idx b3000000_0_11 x17) (v' := fun y => (.d (.sl 3 (y.map cGValue)))) h rfl rfl (fun y hy => vop_ldS (off := 0) (n := 3000000) (sz := 1) (l := b3000000_0_11) (f := (cSl 3 cGValue)) (g := (cSl 3 cGValue)) (j := x17) hy (fun _ => rfl) (by kernel_rfl) (by kernel_rfl) (by kernel_rfl) (by kernel_rfl)) fun y25 h => ?_
   refine dv_step (m := idx b3000000_0_11 x17) (v' := fun y => (.trp 3000000 1 (x17).toNat 0)) h rfl rfl (fun y hy => vop_iaS (n := 3000000) (l := b3000000_0_11) (f := (cSl 3 cGValue)) (k := .i64) (i := x17) hy (by kernel_rfl) (by kernel_rfl) (by kernel_rfl) (by kernel_rfl)) fun y26 h => ?_
   refine dstS_step (n := 3000000) (sz := 1) (l := b3000000_0_11) (f := (cSl 3 cGValue)) (j := x17) (v := y23) h (by kernel_rfl) (by kernel_rfl) (fun _ => rfl) (by kernel_rfl) (by kernel_rfl) (fun _ => rfl) fun y27 h => ?_
   refine dv_step (m := idx y27 (IntKind.wrap .i64 (x17 - 1))) (v' := fun y => (.trp 3000000 1 ((IntKind.wrap .i64 (x17 - 1))).toNat 0)) h rfl rfl (fun y hy => vop_iaS (n := 3000000) (l := y27) (f := (cSl 3 cGValue)) (k := .i64) (i := (IntKind.wrap .i64 (x17 - 1))) hy (by kernel_rfl) (by kernel_rfl) (by kernel_rfl) (by kernel_rfl)) fun y28 h => ?_
   refine dstS_step (n := 3000000) (sz := 1) (l := y27) (f := (cSl 3 cGValue)) (j := (IntKind.wrap .i64 (x17 - 1))) (v := y25) h (by kernel_rfl) (by kernel_rfl) (fun _ => rfl) (by kernel_rfl) (by kernel_rfl) (fun _ => rfl) fun y29 h => (dnil_in (by kernel_rfl) (by kernel_rfl) (bn (xi (oi (sx 3 (ni ?_))))))
   exact lbs (OK_gSlices_symMergeCmpFunc_Simpl_Value_iOrderRow_L4 _ _ _ h) (wr [] eS bS)
   refine ei (te (te (bh (xi (ri (tr ?_))))))
   injection h with h; subst h
   exact r0b
theorem OK_gSlices_symMergeCmpFunc_Simpl_Value_iOrderRow_L4 (x14 x17 b3000000_0_11 r) (h : gSlices_symMergeCmpFunc_Simpl_Value_iOrderRow_L4 x14 x17 b3000000_0_11 = some r) : mogSlices_symMergeCmpFunc_Simpl_Value_iOrderRow_L4 x14 x17 b3000000_0_11 r := (OKs_gSlices_symMergeCmpFunc_Simpl_Value_iOrderRow_L4 x14) x17 b3000000_0_11 r h
theorem OKs_gSlices_symMergeCmpFunc_Simpl_Value_iOrderRow_L1 (p2) (p0) : (∀ x14 x15 r, gSlices_symMergeCmpFunc_Simpl_Value_iOrderRow_L1 p2 p0 x14 x15 = some r → mogSlices_symMergeCmpFunc_Simpl_Value_iOrderRow_L1 p2 p0 x14 x15 r) := by
 refine gSlices_symMergeCmpFunc_Simpl_Value_iOrderRow_L1.partial_correctness p2 p0 (fun x14 x15 r => mogSlices_symMergeCmpFunc_Simpl_Value_iOrderRow_L1 p2 p0 x14 x15 r) ?_
 · intro F_gSlices_symMergeCmpFunc_Simpl_Value_iOrderRow_L1 OK_gSlices_symMergeCmpFunc_Simpl_Value_iOrderRow_L1 x14 x15 r h
   delta mogSlices_symMergeCmpFunc_Simpl_Value_iOrderRow_L1 acgSlices_symMergeCmpFunc_Simpl_Value_iOrderRow_L1
   refine loop_unroll (si (si (oi (sx 3 (ni (xi ?_))))))
   refine cd h (fun h => ?_) fun h => ?_
   refine ki (xi (bi (si (oi (sx 7 (ni (xi (si (dops_in (dsx 3 (dv_step (m := idx p0 p2) (v' := fun y => (.trp 3000000 1 (p2).toNat 0)) h rfl rfl (fun y hy => vop_iaS (n := 3000000) (l := p0) (f := (cSl 3 cGValue)) (k := .i64) (i := p2) hy (by kernel_rfl) (by kernel_rfl) (by kernel_rfl) (by kernel_rfl)) fun y6 h => ?_)))))))))))
   refine dv_step (m := idx p0 p2) (v' := fun y => (.d (.sl 3 (y.map cGValue)))) h rfl rfl (fun y hy => vop_ldS (off := 0) (n := 3000000) (sz := 1) (l := p0) (f := (cSl 3 cGValue)) (g := (cSl 3 cGValue)) (j := p2) hy (fun _ => rfl) (by kernel_rfl) (by kernel_rfl) (by kernel_rfl) (by kernel_rfl)) fun y7 h => (dsx 2 ?_)
   refine dv_step (m := idx p0 (IntKind.wrap .i64 (Int.fdiv (IntKind.wrap .u64 (IntKind.wrap .i64 (x14 + x15))) (2 ^ 1)))) (v' := fun y => (.trp 3000000 1 ((IntKind.wrap .i64 (Int.fdiv (IntKind.wrap .u64 (IntKind.wrap .i64 (x14 + x15))) (2 ^ 1)))).toNat 0)) h rfl rfl (fun y hy => vop_iaS (n := 3000000) (l := p0) (f := (cSl 3 cGValue)) (k := .i64) (i := (IntKind.wrap .i64 (Int.fdiv (IntKind.wrap .u64 (IntKind.wrap .i64 (x14 + x15))) (2 ^ 1)))) hy (by kernel_rfl) (by kernel_rfl) (by kernel_rfl) (by kernel_rfl)) fun y8 h => ?_
   refine dv_step (m := idx p0 (IntKind.wrap .i64 (Int.fdiv (IntKind.wrap .u64 (IntKind.wrap .i64 (x14 + x15))) (2 ^ 1)))) (v' := fun y => (.d (.sl 3 (y.map cGValue)))) h rfl rfl (fun y hy => vop_ldS (off := 0) (n := 3000000) (sz := 1) (l := p0) (f := (cSl 3 cGValue)) (g := (cSl 3 cGValue)) (j := (IntKind.wrap .i64 (Int.fdiv (IntKind.wrap .u64 (IntKind.wrap .i64 (x14 + x15))) (2 ^ 1)))) hy (fun _ => rfl) (by kernel_rfl) (by kernel_rfl) (by kernel_rfl) (by kernel_rfl)) fun y9 h => ?_
   refine dcallv_step (m := iOrderRow y7 y9) (caps := []) (args := [(.d (.sl 3 (y7.map cGValue))), (.d (.sl 3 (y9.map cGValue)))]) (v' := (fun y => (vI y))) h (by kernel_rfl) (by kernel_rfl) (OK_iOrderRow _ _) (by kernel_rfl) (by kernel_rfl) (fun _ => rfl) fun y10 h => (dsx 2 (dnil_in (by kernel_rfl) (by kernel_rfl) (xi ?_)))
   refine cd h (fun h => ?_) fun h => ?_
   exact oi (sx 3 (ni (bn (lbs (OK_gSlices_symMergeCmpFunc_Simpl_Value_iOrderRow_L1 _ _ _ h) (wr [] eS bS)))))
   exact oi (sx 2 (ni (bn (lbs (OK_gSlices_symMergeCmpFunc_Simpl_Value_iOrderRow_L1 _ _ _ h) (wr [] eS bS)))))
   exact ei (te (te (bh (xi (si (si (oi (sx 2 (ni (xi (bi (lgs (OK_gSlices_symMergeCmpFunc_Simpl_Value_iOrderRow_L4 _ _ _ _ h) (wr [] eS bS)))))))))))))
theorem OK_gSlices_symMergeCmpFunc_Simpl_Value_iOrderRow_L1 (p2 p0 x14 x15 r) (h : gSlices_symMergeCmpFunc_Simpl_Value_iOrderRow_L1 p2 p0 x14 x15 = some r) : mogSlices_symMergeCmpFunc_Simpl_Value_iOrderRow_L1 p2 p0 x14 x15 r := (OKs_gSlices_symMergeCmpFunc_Simpl_Value_iOrderRow_L1 p2 p0) x14 x15 r h
theorem OKs_gSlices_symMergeCmpFunc_Simpl_Value_iOrderRow_J7 : (∀ p3 p1 p2 x20_12 b3000000_0_40 r, gSlices_symMergeCmpFunc_Simpl_Value_iOrderRow_J7 p3 p1 p2 x20_12 b3000000_0_40 = some r → mogSlices_symMergeCmpFunc_Simpl_Value_iOrderRow_J7 p3 p1 p2 x20_12 b3000000_0_40 r) ∧ (∀ p0 p1 p2 p3 r, gSlices_symMergeCmpFunc_Simpl_Value_iOrderRow p0 p1 p2 p3 = some r → ACalls Try.prog 39 [(.tre 3000000), (vI p1), (vI p2), (vI p3), (.fn 21 [])] [(3000000, [(.trs 1 (p0.map (cSl 3 cGValue)))])] fun x b => x = (fun (y : (List (List GValue))) => (.tup [])) r ∧ bxHas ((fun (y : (List (List GValue))) => [(3000000, [(.trs 1 (y.map (cSl 3 cGValue)))])]) r) b) ∧ (∀ p1 p2 p3 p0 x20 x21 r, gSlices_symMergeCmpFunc_Simpl_Value_iOrderRow_J2 p1 p2 p3 p0 x20 x21 = some r → mogSlices_symMergeCmpFunc_Simpl_Value_iOrderRow_J2 p1 p2 p3 p0 x20 x21 r) ∧ (∀ p1 p2 p3 p0 x20_12 x21_13 r, gSlices_symMergeCmpFunc_Simpl_Value_iOrderRow_L5 p1 p2 p3 p0 x20_12 x21_13 = some r → mogSlices_symMergeCmpFunc_Simpl_Value_iOrderRow_L5 p1 p2 p3 p0 x20_12 x21_13 r) ∧ (∀ p1 p3 x20_12 p2 b3000000_0_37 r, gSlices_symMergeCmpFunc_Simpl_Value_iOrderRow_J6 p1 p3 x20_12 p2 b3000000_0_37 = some r → mogSlices_symMergeCmpFunc_Simpl_Value_iOrderRow_J6 p1 p3 x20_12 p2 b3000000_0_37 r) := by
 refine gSlices_symMergeCmpFunc_Simpl_Value_iOrderRow_J7.mutual_partial_correctness (fun p3 p1 p2 x20_12 b3000000_0_40 r => mogSlices_symMergeCmpFunc_Simpl_Value_iOrderRow_J7 p3 p1 p2 x20_12 b3000000_0_40 r) (fun p0 p1 p2 p3 r => ACalls Try.prog 39 [(.tre 3000000), (vI p1), (vI p2), (vI p3), (.fn 21 [])] [(3000000, [(.trs 1 (p0.map (cSl 3 cGValue)))])] fun x b => x = (fun (y : (List (List GValue))) => (.tup [])) r ∧ bxHas ((fun (y : (List (List GValue))) => [(3000000, [(.trs 1 (y.map (cSl 3 cGValue)))])]) r) b) (fun p1 p2 p3 p0 x20 x21 r => mogSlices_symMergeCmpFunc_Simpl_Value_iOrderRow_J2 p1 p2 p3 p0 x20 x21 r) (fun p1 p2 p3 p0 x20_12 x21_13 r => mogSlices_symMergeCmpFunc_Simpl_Value_iOrderRow_L5 p1 p2 p3 p0 x20_12 x21_13 r) (fun p1 p3 x20_12 p2 b3000000_0_37 r => mogSlices_symMergeCmpFunc_Simpl_Value_iOrderRow_J6 p1 p3 x20_12 p2 b3000000_0_37 r) ?_ ?_ ?_ ?_ ?_
 · intro F_gSlices_symMergeCmpFunc_Simpl_Value_iOrderRow OK_gSlices_symMergeCmpFunc_Simpl_Value_iOrderRow p3 p1 p2 x20_12 b3000000_0_40 r h
   delta mogSlices_symMergeCmpFunc_Simpl_Value_iOrderRow_J7 acgSlices_symMergeCmpFunc_Simpl_Value_iOrderRow_J7
   refine si (oi (sx 4 (gq 0 (gq 0 (gq 2 (pkA h fun y41 h => (ni (xi ?_))))))))
   refine cd h (fun h => ?_) fun h => ?_
   refine oi (sx 5 (cg ⟨[(3000000, 3000000)], [], [], [], [], [], [], [], []⟩ h (OK_gSlices_symMergeCmpFunc_Simpl_Value_iOrderRow _ _ _ _) fun y42 h => (ni (retn_in ?_))))
   injection h with h; subst h
   exact r0b
   refine ki (retn_in ?_)
   injection h with h; subst h
   exact r0b
 · intro F_gSlices_symMergeCmpFunc_Simpl_Value_iOrderRow_J2 OK_gSlices_symMergeCmpFunc_Simpl_Value_iOrderRow_J2 p0 p1 p2 p3 r h
   refine ao trgSlices_symMergeCmpFunc_Simpl_Value_iOrderRow (si (si (oi (sx 4 (ni (xi ?_))))))
   refine cd h (fun h => ?_) fun h => ?_
   exact si (oi (sx 2 (ni (xi (si (oi (sx 2 (ni (xi (si (bi (lgs (OK_gSlices_symMergeCmpFunc_Simpl_Value_iOrderRow_L0 _ _ _ _ _ h) (wr [] eS bS)))))))))))))
   refine ki (xi (si (si (oi (sx 4 (ni (xi ?_)))))))
   refine cd h (fun h => ?_) fun h => ?_
   exact si (oi (sx 2 (ni (xi (si (oi (sx 2 (ni (xi (si (bi (lgs (OK_gSlices_symMergeCmpFunc_Simpl_Value_iOrderRow_L1 _ _ _ _ _ h) (wr [] eS bS)))))))))))))
   refine ki (xi (si (oi (sx 7 (ni (xi (si (oi (sx 4 (ni (xi (si (oi (sx 2 (ni (xi (si (si (oi (sx 3 (ni (xi ?_))))))))))))))))))))))
   refine cd h (fun h => ?_) fun h => ?_
   refine si (oi (sx 4 (ni (xi (oi (sx 2 (ni ?_)))))))
   exact nxs (OK_gSlices_symMergeCmpFunc_Simpl_Value_iOrderRow_J2 _ _ _ _ _ _ _ h) (wr [] eS bS)
   refine si (oi (sx 2 (ni (xi (oi (sx 2 (ni ?_)))))))
   exact nxs (OK_gSlices_symMergeCmpFunc_Simpl_Value_iOrderRow_J2 _ _ _ _ _ _ _ h) (wr [] eS bS)
 · intro F_gSlices_symMergeCmpFunc_Simpl_Value_iOrderRow_L5 OK_gSlices_symMergeCmpFunc_Simpl_Value_iOrderRow_L5 p1 p2 p3 p0 x20 x21 r h
   delta mogSlices_symMergeCmpFunc_Simpl_Value_iOrderRow_J2 acgSlices_symMergeCmpFunc_Simpl_Value_iOrderRow_J2
   refine si (oi (sx 3 (ni (xi (si (bi ?_))))))
   exact lgs (OK_gSlices_symMergeCmpFunc_Simpl_Value_iOrderRow_L5 _ _ _ _ _ _ _ h) (wr [] eS bS)
 · intro F_gSlices_symMergeCmpFunc_Simpl_Value_iOrderRow_L5 F_gSlices_symMergeCmpFunc_Simpl_Value_iOrderRow_J6 OK_gSlices_symMergeCmpFunc_Simpl_Value_iOrderRow_L5 OK_gSlices_symMergeCmpFunc_Simpl_Value_iOrderRow_J6 p1 p2 p3 p0 x20_12 x21_13 r h
   delta mogSlices_symMergeCmpFunc_Simpl_Value_iOrderRow_L5 acgSlices_symMergeCmpFunc_Simpl_Value_iOrderRow_L5
   refine loop_unroll (si (si (oi (sx 3 (ni (xi ?_))))))
   refine cd h (fun h => ?_) fun h => ?_
   refine ki (xi (bi (si (oi (sx 7 (ni (xi (si (dops_in (dsx 5 ?_))))))))))
   refine dv_step (m := idx p0 (IntKind.wrap .i64 ((IntKind.wrap .i64 ((IntKind.wrap .i64 ((IntKind.wrap .i64 (Int.fdiv (IntKind.wrap .u64 (IntKind.wrap .i64 (p1 + p3))) (2 ^ 1))) + p2)) - 1)) - (IntKind.wrap .i64 (Int.fdiv (IntKind.wrap .u64 (IntKind.wrap .i64 (x20_12 + x21_13))) (2 ^ 1)))))) (v' := fun y => (.trp 3000000 1 ((IntKind.wrap .i64 ((IntKind.wrap .i64 ((IntKind.wrap .i64 ((IntKind.wrap .i64 (Int.fdiv (IntKind.wrap .u64 (IntKind.wrap .i64 (p1 + p3))) (2 ^ 1))) + p2)) - 1)) - (IntKind.wrap .i64 (Int.fdiv (IntKind.wrap .u64 (IntKind.wrap .i64 (x20_12 + x21_13))) (2 ^ 1)))))).toNat 0)) h rfl rfl (fun y hy => vop_iaS (n := 3000000) (l := p0) (f := (cSl 3 cGValue)) (k := .i64) (i := (IntKind.wrap .i64 ((IntKind.wrap .i64 ((IntKind.wrap .i64 ((IntKind.wrap .i64 (Int.fdiv (IntKind.wrap .u64 (IntKind.wrap .i64 (p1 + p3))) (2 ^ 1))) + p2)) - 1)) - (IntKind.wrap .i64 (Int.fdiv (IntKind.wrap .u64 (IntKind.wrap .i64 (x20_12 + x21_13))) (2 ^ 1)))))) hy (by kernel_rfl) (by kernel_rfl) (by kernel_rfl) (by kernel_rfl)) fun y30 h => ?_
   refine dv_step (m := idx p0 (IntKind.wrap .i64 ((IntKind.wrap .i64 ((IntKind.wrap .i64 ((IntKind.wrap .i64 (Int.fdiv (IntKind.wrap .u64 (IntKind.wrap .i64 (p1 + p3))) (2 ^ 1))) + p2)) - 1)) - (IntKind.wrap .i64 (Int.fdiv (IntKind.wrap .u64 (IntKind.wrap .i64 (x20_12 + x21_13))) (2 ^ 1)))))) (v' := fun y => (.d (.sl 3 (y.map cGValue)))) h rfl rfl (fun y hy => vop_ldS (off := 0) (n := 3000000) (sz := 1) (l := p0) (f := (cSl 3 cGValue)) (g := (cSl 3 cGValue)) (j := (IntKind.wrap .i64 ((IntKind.wrap .i64 ((IntKind.wrap .i64 ((IntKind.wrap .i64 (Int.fdiv (IntKind.wrap .u64 (IntKind.wrap .i64 (p1 + p3))) (2 ^ 1))) + p2)) - 1)) - (IntKind.wrap .i64 (Int.fdiv (IntKind.wrap .u64 (IntKind.wrap .i64 (x20_12 + x21_13))) (2 ^ 1)))))) hy (fun _ => rfl) (by kernel_rfl) (by kernel_rfl) (by kernel_rfl) (by kernel_rfl)) fun y31 h => ?_
   let a0 : St := (stgSlices_symMergeCmpFunc_Simpl_Value_iOrderRow_L5 p1 p2 p3 p0 x20_12 x21_13).p [(166, (vI (IntKind.wrap .i64 (Int.fdiv (IntKind.wrap .u64 (IntKind.wrap .i64 (x20_12 + x21_13))) (2 ^ 1))))), (165, (.tre 3000000)), (164, (.d (.sl 3 (y31.map cGValue)))), (163, (.trp 3000000 1 ((IntKind.wrap .i64 ((IntKind.wrap .i64 ((IntKind.wrap .i64 ((IntKind.wrap .i64 (Int.fdiv (IntKind.wrap .u64 (IntKind.wrap .i64 (p1 + p3))) (2 ^ 1))) + p2)) - 1)) - (IntKind.wrap .i64 (Int.fdiv (IntKind.wrap .u64 (IntKind.wrap .i64 (x20_12 + x21_13))) (2 ^ 1)))))).toNat 0)), (162, (vI (IntKind.wrap .i64 ((IntKind.wrap .i64 ((IntKind.wrap .i64 ((IntKind.wrap .i64 (Int.fdiv (IntKind.wrap .u64 (IntKind.wrap .i64 (p1 + p3))) (2 ^ 1))) + p2)) - 1)) - (IntKind.wrap .i64 (Int.fdiv (IntKind.wrap .u64 (IntKind.wrap .i64 (x20_12 + x21_13))) (2 ^ 1))))))), (161, (vI (IntKind.wrap .i64 (Int.fdiv (IntKind.wrap .u64 (IntKind.wrap .i64 (x20_12 + x21_13))) (2 ^ 1))))), (160, (vI (IntKind.wrap .i64 ((IntKind.wrap .i64 ((IntKind.wrap .i64 (Int.fdiv (IntKind.wrap .u64 (IntKind.wrap .i64 (p1 + p3))) (2 ^ 1))) + p2)) - 1)))), (159, (.tre 3000000)), (158, (.fn 21 [])), (23, (vI (IntKind.wrap .i64 (Int.fdiv (IntKind.wrap .u64 (IntKind.wrap .i64 (x20_12 + x21_13))) (2 ^ 1))))), (157, (vI (IntKind.wrap .i64 (Int.fdiv (IntKind.wrap .u64 (IntKind.wrap .i64 (x20_12 + x21_13))) (2 ^ 1))))), (156, (.d (.i .u64 (Int.fdiv (IntKind.wrap .u64 (IntKind.wrap .i64 (x20_12 + x21_13))) (2 ^ 1))))), (155, (.d (.i .u64 (IntKind.wrap .u64 (IntKind.wrap .i64 (x20_12 + x21_13)))))), (154, (vI (IntKind.wrap .i64 (x20_12 + x21_13)))), (153, (vI x21_13)), (152, (vI x20_12)), (151, (vB (decide (x20_12 < x21_13)))), (150, (vI x21_13)), (149, (vI x20_12))]
   refine dsts_ok 2 (s' := a0) (by kernel_rfl) ?_
   refine dv_step (m := idx p0 (IntKind.wrap .i64 (Int.fdiv (IntKind.wrap .u64 (IntKind.wrap .i64 (x20_12 + x21_13))) (2 ^ 1)))) (v' := fun y => (.trp 3000000 1 ((IntKind.wrap .i64 (Int.fdiv (IntKind.wrap .u64 (IntKind.wrap .i64 (x20_12 + x21_13))) (2 ^ 1)))).toNat 0)) h rfl rfl (fun y hy => vop_iaS (n := 3000000) (l := p0) (f := (cSl 3 cGValue)) (k := .i64) (i := (IntKind.wrap .i64 (Int.fdiv (IntKind.wrap .u64 (IntKind.wrap .i64 (x20_12 + x21_13))) (2 ^ 1)))) hy (by kernel_rfl) (by kernel_rfl) (by kernel_rfl) (by kernel_rfl)) fun y32 h => ?_
   refine dv_step (m := idx p0 (IntKind.wrap .i64 (Int.fdiv (IntKind.wrap .u64 (IntKind.wrap .i64 (x20_12 + x21_13))) (2 ^ 1)))) (v' := fun y => (.d (.sl 3 (y.map cGValue)))) h rfl rfl (fun y hy => vop_ldS (off := 0) (n := 3000000) (sz := 1) (l := p0) (f := (cSl 3 cGValue)) (g := (cSl 3 cGValue)) (j := (IntKind.wrap .i64 (Int.fdiv (IntKind.wrap .u64 (IntKind.wrap .i64 (x20_12 + x21_13))) (2 ^ 1)))) hy (fun _ => rfl) (by kernel_rfl) (by kernel_rfl) (by kernel_rfl) (by kernel_rfl)) fun y33 h => ?_
   refine dcallv_step (m := iOrderRow y31 y33) (caps := []) (args := [(.d (.sl 3 (y31.map cGValue))), (.d (.sl 3 (y33.map cGValue)))]) (v' := (fun y => (vI y))) h (by kernel_rfl) (by kernel_rfl) (OK_iOrderRow _ _) (by kernel_rfl) (by kernel_rfl) (fun _ => rfl) fun y34 h => (dsx 2 (dnil_in (by kernel_rfl) (by kernel_rfl) (xi ?_)))
   refine cd h (fun h => ?_) fun h => ?_
   refine oi (sx 3 (ni (bn ?_)))
   exact lbs (OK_gSlices_symMergeCmpFunc_Simpl_Value_iOrderRow_L5 _ _ _ _ _ _ _ h) (wr [] eS bS)
   refine oi (sx 2 (ni (bn ?_)))
   exact lbs (OK_gSlices_symMergeCmpFunc_Simpl_Value_iOrderRow_L5 _ _ _ _ _ _ _ h) (wr [] eS bS)
   refine ei (te (te (bh (xi (si (oi (sx 4 (ni (xi (si (si (oi (sx 4 (gq 0 (gq 0 (gq 2 (pkA h fun y35 h => (ni (xi ?_)))))))))))))))))))
   refine cd h (fun h => ?_) fun h => ?_
   refine oi (sx 5 (cg ⟨[(3000000, 3000000)], [], [], [], [], [], [], [], []⟩ h (OK_gSlices_rotateCmpFunc_Simpl_Value_iOrderRow _ _ _ _) fun y36 h => (ni ?_)))
   exact nxs (OK_gSlices_symMergeCmpFunc_Simpl_Value_iOrderRow_J6 _ _ _ _ _ _ h) (wr [] eS bS)
   exact ki (nxs (OK_gSlices_symMergeCmpFunc_Simpl_Value_iOrderRow_J6 _ _ _ _ _ _ h) (wr [] eS bS))
 · intro F_gSlices_symMergeCmpFunc_Simpl_Value_iOrderRow_J7 F_gSlices_symMergeCmpFunc_Simpl_Value_iOrderRow OK_gSlices_symMergeCmpFunc_Simpl_Value_iOrderRow_J7 OK_gSlices_symMergeCmpFunc_Simpl_Value_iOrderRow p1 p3 x20_12 p2 b3000000_0_37 r h
   delta mogSlices_symMergeCmpFunc_Simpl_Value_iOrderRow_J6 acgSlices_symMergeCmpFunc_Simpl_Value_iOrderRow_J6
   refine si (si (oi (sx 4 (gq 0 (gq 0 (gq 2 (pkA h fun y38 h => (ni (xi ?_)))))))))
   refine cd h (fun h => ?_) fun h => ?_
   exact oi (sx 5 (cg ⟨[(3000000, 3000000)], [], [], [], [], [], [], [], []⟩ h (OK_gSlices_symMergeCmpFunc_Simpl_Value_iOrderRow _ _ _ _) fun y39 h => (ni (nxs (OK_gSlices_symMergeCmpFunc_Simpl_Value_iOrderRow_J7 _ _ _ _ _ _ h) (wr [] eS bS)))))
   exact ki (nxs (OK_gSlices_symMergeCmpFunc_Simpl_Value_iOrderRow_J7 _ _ _ _ _ _ h) (wr [] eS bS))
theorem OK_gSlices_symMergeCmpFunc_Simpl_Value_iOrderRow_J7 (p3 p1 p2 x20_12 b3000000_0_40 r) (h : gSlices_symMergeCmpFunc_Simpl_Value_iOrderRow_J7 p3 p1 p2 x20_12 b3000000_0_40 = some r) : mogSlices_symMergeCmpFunc_Simpl_Value_iOrderRow_J7 p3 p1 p2 x20_12 b3000000_0_40 r := (OKs_gSlices_symMergeCmpFunc_Simpl_Value_iOrderRow_J7).1 p3 p1 p2 x20_12 b3000000_0_40 r h
theorem OK_gSlices_symMergeCmpFunc_Simpl_Value_iOrderRow (p0 : (List (List GValue))) (p1 : Int) (p2 : Int) (p3 : Int) : FOkB Try.prog 39 [(.tre 3000000), (vI p1), (vI p2), (vI p3), (.fn 21 [])] [(3000000, [(.trs 1 (p0.map (cSl 3 cGValue)))])] (fun (y : (List (List GValue))) => (.tup [])) (fun (y : (List (List GValue))) => [(3000000, [(.trs 1 (y.map (cSl 3 cGValue)))])]) (gSlices_symMergeCmpFunc_Simpl_Value_iOrderRow p0 p1 p2 p3) := fun r h => (OKs_gSlices_symMergeCmpFunc_Simpl_Value_iOrderRow_J7).2.1 p0 p1 p2 p3 r h
theorem OK_gSlices_symMergeCmpFunc_Simpl_Value_iOrderRow_J2 (p1 p2 p3 p0 x20 x21 r) (h : gSlices_symMergeCmpFunc_Simpl_Value_iOrderRow_J2 p1 p2 p3 p0 x20 x21 = some r) : mogSlices_symMergeCmpFunc_Simpl_Value_iOrderRow_J2 p1 p2 p3 p0 x20 x21 r := (OKs_gSlices_symMergeCmpFunc_Simpl_Value_iOrderRow_J7).2.2.1 p1 p2 p3 p0 x20 x21 r h
theorem OK_gSlices_symMergeCmpFunc_Simpl_Value_iOrderRow_L5 (p1 p2 p3 p0 x20_12 x21_13 r) (h : gSlices_symMergeCmpFunc_Simpl_Value_iOrderRow_L5 p1 p2 p3 p0 x20_12 x21_13 = some r) : mogSlices_symMergeCmpFunc_Simpl_Value_iOrderRow_L5 p1 p2 p3 p0 x20_12 x21_13 r := (OKs_gSlices_symMergeCmpFunc_Simpl_Value_iOrderRow_J7).2.2.2.1 p1 p2 p3 p0 x20_12 x21_13 r h
theorem OK_gSlices_symMergeCmpFunc_Simpl_Value_iOrderRow_J6 (p1 p3 x20_12 p2 b3000000_0_37 r) (h : gSlices_symMergeCmpFunc_Simpl_Value_iOrderRow_J6 p1 p3 x20_12 p2 b3000000_0_37 = some r) : mogSlices_symMergeCmpFunc_Simpl_Value_iOrderRow_J6 p1 p3 x20_12 p2 b3000000_0_37 r := (OKs_gSlices_symMergeCmpFunc_Simpl_Value_iOrderRow_J7).2.2.2.2 p1 p3 x20_12 p2 b3000000_0_37 r h
theorem OKs_gSlices_stableCmpFunc_Simpl_Value_iOrderRow_J3 (p1) : (∀ x6 b3000000_0_9 r, gSlices_stableCmpFunc_Simpl_Value_iOrderRow_J3 p1 x6 b3000000_0_9 = some r → mogSlices_stableCmpFunc_Simpl_Value_iOrderRow_J3 p1 x6 b3000000_0_9 r) ∧ (∀ x6 b3000000_0_3 r, gSlices_stableCmpFunc_Simpl_Value_iOrderRow_L1 p1 x6 b3000000_0_3 = some r → mogSlices_stableCmpFunc_Simpl_Value_iOrderRow_L1 p1 x6 b3000000_0_3 r) ∧ (∀ x6 x7_4 x8_5 b3000000_0_6 r, gSlices_stableCmpFunc_Simpl_Value_iOrderRow_L2 p1 x6 x7_4 x8_5 b3000000_0_6 = some r → mogSlices_stableCmpFunc_Simpl_Value_iOrderRow_L2 p1 x6 x7_4 x8_5 b3000000_0_6 r) := by
 refine gSlices_stableCmpFunc_Simpl_Value_iOrderRow_J3.mutual_partial_correctness p1 (fun x6 b3000000_0_9 r => mogSlices_stableCmpFunc_Simpl_Value_iOrderRow_J3 p1 x6 b3000000_0_9 r) (fun x6 b3000000_0_3 r => mogSlices_stableCmpFunc_Simpl_Value_iOrderRow_L1 p1 x6 b3000000_0_3 r) (fun x6 x7_4 x8_5 b3000000_0_6 r => mogSlices_stableCmpFunc_Simpl_Value_iOrderRow_L2 p1 x6 x7_4 x8_5 b3000000_0_6 r) ?_ ?_ ?_
 · intro F_gSlices_stableCmpFunc_Simpl_Value_iOrderRow_L1 OK_gSlices_stableCmpFunc_Simpl_Value_iOrderRow_L1 x6 b3000000_0_9 r h
   delta mogSlices_stableCmpFunc_Simpl_Value_iOrderRow_J3 acgSlices_stableCmpFunc_Simpl_Value_iOrderRow_J3
   refine oi ?_
   let a0 : St := (stgSlices_stableCmpFunc_Simpl_Value_iOrderRow_J3 p1 x6 b3000000_0_9).p [(6, (vI (IntKind.wrap .i64 (x6 * 2)))), (62, (vI (IntKind.wrap .i64 (x6 * 2)))), (61, (vI x6))]
   exact st 3 a0 (ni (bn (lbs (OK_gSlices_stableCmpFunc_Simpl_Value_iOrderRow_L1 _ _ _ h) (wr [] eS bS))))
 · intro F_gSlices_stableCmpFunc_Simpl_Value_iOrderRow_L2 OK_gSlices_stableCmpFunc_Simpl_Value_iOrderRow_L2 x6 b3000000_0_3 r h
   delta mogSlices_stableCmpFunc_Simpl_Value_iOrderRow_L1 acgSlices_stableCmpFunc_Simpl_Value_iOrderRow_L1
   refine loop_unroll (si (si (oi (sx 3 (ni (xi ?_))))))
   refine cd h (fun h => ?_) fun h => ?_
   exact ki (xi (bi (si (oi (sx 4 (ni (xi (si (bi (lgs (OK_gSlices_stableCmpFunc_Simpl_Value_iOrderRow_L2 _ _ _ _ _ h) (wr [] eS bS)))))))))))
   refine ei (te (te (bh (retn_in ?_))))
   injection h with h; subst h
   exact r0b
 · intro F_gSlices_stableCmpFunc_Simpl_Value_iOrderRow_J3 F_gSlices_stableCmpFunc_Simpl_Value_iOrderRow_L2 OK_gSlices_stableCmpFunc_Simpl_Value_iOrderRow_J3 OK_gSlices_stableCmpFunc_Simpl_Value_iOrderRow_L2 x6 x7_4 x8_5 b3000000_0_6 r h
   delta mogSlices_stableCmpFunc_Simpl_Value_iOrderRow_L2 acgSlices_stableCmpFunc_Simpl_Value_iOrderRow_L2
   refine loop_unroll (si (si (oi (sx 3 (ni (xi ?_))))))
   refine cd h (fun h => ?_) fun h => ?_
   refine ki (xi (bi (si (oi (sx 7 (cg ⟨[(3000000, 3000000)], [], [], [], [], [], [], [], []⟩ h (OK_gSlices_symMergeCmpFunc_Simpl_Value_iOrderRow _ _ _ _) fun y7 h => (ni (xi (si (oi (sx 2 (ni (xi (oi (sx 5 (ni (bn ?_)))))))))))))))))
   exact lbs (OK_gSlices_stableCmpFunc_Simpl_Value_iOrderRow_L2 _ _ _ _ _ h) (wr [] eS bS)
   refine ei (te (te (bh (xi (si (si (oi (sx 4 (ni (xi (si (oi (sx 3 (ni (xi ?_)))))))))))))))
   refine cd h (fun h => ?_) fun h => ?_
   exact oi (sx 5 (cg ⟨[(3000000, 3000000)], [], [], [], [], [], [], [], []⟩ h (OK_gSlices_symMergeCmpFunc_Simpl_Value_iOrderRow _ _ _ _) fun y8 h => (ni (nxs (OK_gSlices_stableCmpFunc_Simpl_Value_iOrderRow_J3 _ _ _ h) (wr [] eS bS)))))
   exact ki (nxs (OK_gSlices_stableCmpFunc_Simpl_Value_iOrderRow_J3 _ _ _ h) (wr [] eS bS))
theorem OK_gSlices_stableCmpFunc_Simpl_Value_iOrderRow_J3 (p1 x6 b3000000_0_9 r) (h : gSlices_stableCmpFunc_Simpl_Value_iOrderRow_J3 p1 x6 b3000000_0_9 = some r) : mogSlices_stableCmpFunc_Simpl_Value_iOrderRow_J3 p1 x6 b3000000_0_9 r := (OKs_gSlices_stableCmpFunc_Simpl_Value_iOrderRow_J3 p1).1 x6 b3000000_0_9 r h
theorem OK_gSlices_stableCmpFunc_Simpl_Value_iOrderRow_L1 (p1 x6 b3000000_0_3 r) (h : gSlices_stableCmpFunc_Simpl_Value_iOrderRow_L1 p1 x6 b3000000_0_3 = some r) : mogSlices_stableCmpFunc_Simpl_Value_iOrderRow_L1 p1 x6 b3000000_0_3 r := (OKs_gSlices_stableCmpFunc_Simpl_Value_iOrderRow_J3 p1).2.1 x6 b3000000_0_3 r h
theorem OK_gSlices_stableCmpFunc_Simpl_Value_iOrderRow_L2 (p1 x6 x7_4 x8_5 b3000000_0_6 r) (h : gSlices_stableCmpFunc_Simpl_Value_iOrderRow_L2 p1 x6 x7_4 x8_5 b3000000_0_6 = some r) : mogSlices_stableCmpFunc_Simpl_Value_iOrderRow_L2 p1 x6 x7_4 x8_5 b3000000_0_6 r := (OKs_gSlices_stableCmpFunc_Simpl_Value_iOrderRow_J3 p1).2.2 x6 x7_4 x8_5 b3000000_0_6 r h
theorem OKs_gSlices_stableCmpFunc_Simpl_Value_iOrderRow_L0 (p1) : (∀ x7 x8 b3000000_0 r, gSlices_stableCmpFunc_Simpl_Value_iOrderRow_L0 p1 x7 x8 b3000000_0 = some r → mogSlices_stableCmpFunc_Simpl_Value_iOrderRow_L0 p1 x7 x8 b3000000_0 r) := by
 refine gSlices_stableCmpFunc_Simpl_Value_iOrderRow_L0.partial_correctness p1 (fun x7 x8 b3000000_0 r => mogSlices_stableCmpFunc_Simpl_Value_iOrderRow_L0 p1 x7 x8 b3000000_0 r) ?_
 · intro F_gSlices_stableCmpFunc_Simpl_Value_iOrderRow_L0 OK_gSlices_stableCmpFunc_Simpl_Value_iOrderRow_L0 x7 x8 b3000000_0 r h
   delta mogSlices_stableCmpFunc_Simpl_Value_iOrderRow_L0 acgSlices_stableCmpFunc_Simpl_Value_iOrderRow_L0
   refine loop_unroll (si (si (oi (sx 3 (ni (xi ?_))))))
   refine cd h (fun h => ?_) fun h => ?_
   refine ki (xi (bi (si (oi (sx 4 (cg ⟨[(3000000, 3000000)], [], [], [], [], [], [], [], []⟩ h (OK_gSlices_insertionSortCmpFunc_Simpl_Value_iOrderRow _ _ _) fun y1 h => (ni (xi (si (oi (sx 2 (ni (xi (oi (sx 4 (ni (bn ?_)))))))))))))))))
   exact lbs (OK_gSlices_stableCmpFunc_Simpl_Value_iOrderRow_L0 _ _ _ _ h) (wr [] eS bS)
   exact ei (te (te (bh (xi (si (oi (sx 4 (cg ⟨[(3000000, 3000000)], [], [], [], [], [], [], [], []⟩ h (OK_gSlices_insertionSortCmpFunc_Simpl_Value_iOrderRow _ _ _) fun y2 h => (ni (xi (bi (lgs (OK_gSlices_stableCmpFunc_Simpl_Value_iOrderRow_L1 _ _ _ _ h) (wr [] eS bS)))))))))))))
theorem OK_gSlices_stableCmpFunc_Simpl_Value_iOrderRow_L0 (p1 x7 x8 b3000000_0 r) (h : gSlices_stableCmpFunc_Simpl_Value_iOrderRow_L0 p1 x7 x8 b3000000_0 = some r) : mogSlices_stableCmpFunc_Simpl_Value_iOrderRow_L0 p1 x7 x8 b3000000_0 r := (OKs_gSlices_stableCmpFunc_Simpl_Value_iOrderRow_L0 p1) x7 x8 b3000000_0 r h
theorem OK_gSlices_stableCmpFunc_Simpl_Value_iOrderRow (p0 : (List (List GValue))) (p1 : Int) : FOkB Try.prog 29 [(.tre 3000000), (vI p1), (.fn 21 [])] [(3000000, [(.trs 1 (p0.map (cSl 3 cGValue)))])] (fun (y : (List (List GValue))) => (.tup [])) (fun (y : (List (List GValue))) => [(3000000, [(.trs 1 (y.map (cSl 3 cGValue)))])]) (gSlices_stableCmpFunc_Simpl_Value_iOrderRow p0 p1) := by
 intro r h
 rw [gSlices_stableCmpFunc_Simpl_Value_iOrderRow] at h
 exact ao trgSlices_stableCmpFunc_Simpl_Value_iOrderRow (si (oi (sx 1 (ni (xi (si (oi (sx 3 (ni (xi (si (bi (lgs (OK_gSlices_stableCmpFunc_Simpl_Value_iOrderRow_L0 _ _ _ _ _ h) (wr [] eS bS))))))))))))))
theorem OK_gSlices_SortStableFunc_SSimpl_Value_Simpl_Value_iOrderRow (p0 : (List (List GValue))) : FOkB Try.prog 20 [(.tre 3000000), (.fn 21 [])] [(3000000, [(.trs 1 (p0.map (cSl 3 cGValue)))])] (fun (y : (List (List GValue))) => (.tup [])) (fun (y : (List (List GValue))) => [(3000000, [(.trs 1 (y.map (cSl 3 cGValue)))])]) (gSlices_SortStableFunc_SSimpl_Value_Simpl_Value_iOrderRow p0) := by
 intro r h
 rw [gSlices_SortStableFunc_SSimpl_Value_Simpl_Value_iOrderRow] at h
 refine ao trgSlices_SortStableFunc_SSimpl_Value_Simpl_Value_iOrderRow (oi (sx 2 (ps (vI (ln p0)) (vop_lenT (n := 3000000) (l := p0.map (cSl 3 cGValue)) (L := p0.length) (by kernel_rfl) (by kernel_rfl) (List.length_map ..)) (sx 1 (cg ⟨[(3000000, 3000000)], [], [], [], [], [], [], [], []⟩ h (OK_gSlices_stableCmpFunc_Simpl_Value_iOrderRow _ _) fun y1 h => (ni (retn_in ?_)))))))
 injection h with h; subst h
 exact r0b
theorem OK_gSlices_Clone_Simpl_Value_impl_Value (p0 : (List GValue)) : FOkB Try.prog 28 [(.d (.sl 3 (p0.map cGValue)))] [] (fun (y : (List GValue)) => (.osl 2000000 33 3 (y.map cGValue))) (fun (y : (List GValue)) => []) (gSlices_Clone_Simpl_Value_impl_Value p0) := by
 intro r h
 rw [gSlices_Clone_Simpl_Value_impl_Value] at h
 refine ao trgSlices_Clone_Simpl_Value_impl_Value (si (oi (sx 1 (ni (xi (si (si (oi (sx 1 ?_)))))))))
 refine eqn_step (sz := 3) (l := p0) (f := cGValue) h (by kernel_rfl) (by kernel_rfl) (fun hl h => ?_) fun hl h => ?_
 refine ni (xi (cdf (ki (xi (si (oi (bsl_step (l := ([] : List GValue)) (f := cGValue) (g := cGValue) (by kernel_rfl) (fun _ => rfl) (by kernel_rfl) (sx 1 (aq 5 cGValue h fun y1 h => (sx 1 (ni (xi (ret_wk (s' := ⟨[(2, (.osl 2000000 33 3 (y1.map cGValue)))], []⟩) (wr [(2000000, .old 2)] (eo 2 er_nil) br_nil) ?_)))))))))))))
 injection h with h; subst h
 exact rb
 subst hl
 refine ⟨?_, ?_⟩
 replace h : ((appG 32 ([] : List GValue) ([] : List GValue)) >>= fun (y2 : List GValue) => some y2 : Option (List GValue)) = some r := h
 refine ni (xi (cdf (ki (xi (si (oi (bsl_step (l := ([] : List GValue)) (f := cGValue) (g := cGValue) (by kernel_rfl) (fun _ => rfl) (by kernel_rfl) (sx 1 (aq 5 cGValue h fun y2 h => (sx 1 (ni (xi (ret_wk (s' := ⟨[(2, (.osl 2000000 33 3 (y2.map cGValue)))], []⟩) (wr [(2000000, .old 2)] (eo 2 er_nil) br_nil) ?_)))))))))))))
 injection h with h; subst h
 exact rb
 refine ni (xi (cdt (si (oi (sx 1 (ni (xi (ret_wk (s' := ⟨[(2, (.osl 2000000 33 3 (([] : List GValue).map cGValue)))], []⟩) (wr [(2000000, .new 33 3)] (en er_nil) br_nil) (tr ?_)))))))))
 injection h with h; subst h
 exact rb
theorem OKs_iCopyRows_X_L0 (p0) : (∀ x9 b60014000_0 r, iCopyRows_X_L0 p0 x9 b60014000_0 = some r → moiCopyRows_X_L0 p0 x9 b60014000_0 r) := by
 refine iCopyRows_X_L0.partial_correctness p0 (fun x9 b60014000_0 r => moiCopyRows_X_L0 p0 x9 b60014000_0 r) ?_
 · intro F_iCopyRows_X_L0 OK_iCopyRows_X_L0 x9 b60014000_0 r h
   delta moiCopyRows_X_L0 aciCopyRows_X_L0
   refine loop_unroll (si (oi (sx 1 (ni (xi (si ?_))))))
   refine cd h (fun h => ?_) fun h => ?_
   refine ki (xi (si (bi (si (oi (iq h fun y1 h => (sx 2 (ni (xi (oi (sx 2 (cg ⟨[], [], [], [], [], [(2000000, 15)], [], [15], []⟩ h (OK_gSlices_Clone_Simpl_Value_impl_Value _) fun y2 h => (bsl_step (l := ([y2] : List (List GValue))) (f := (cSl 3 cGValue)) (g := (cSl 3 cGValue)) (by kernel_rfl) (fun _ => rfl) (by kernel_rfl) ?_)))))))))))))
   exact appS_step (l := b60014000_0) (m := ([y2] : List (List GValue))) (f := (cSl 3 cGValue)) [60014000] h (by kernel_rfl) (by kernel_rfl) (by kernel_rfl) (by kernel_rfl) (fun _ => rfl) fun y3 h => (sx 1 (ni (bn (xi (oi (sx 2 (ni (lbs (OK_iCopyRows_X_L0 _ _ _ h) (tw [.rn [(17, 60014000)]] (wr [] eS bS))))))))))
   refine ei (te (te (bh (xi (si (oi (sx 2 (ni (xi (ret_wk (s' := ⟨[(2, (.tre 10000000))], [(10000000, [(.trs 1 (b60014000_0.map (cSl 3 cGValue)))])]⟩) (tw [.rn [(60014000, 10000000)]] (wr [] eS bS)) ?_))))))))))
   injection h with h; subst h
   exact rb
theorem OK_iCopyRows_X_L0 (p0 x9 b60014000_0 r) (h : iCopyRows_X_L0 p0 x9 b60014000_0 = some r) : moiCopyRows_X_L0 p0 x9 b60014000_0 r := (OKs_iCopyRows_X_L0 p0) x9 b60014000_0 r h
theorem OK_iCopyRows_X (p0 : (List (List GValue))) : FOkB Try.prog 19 [(.d (.sl 1 (p0.map (cSl 3 cGValue))))] [] (fun (y : (List (List GValue))) => (.tre 10000000)) (fun (y : (List (List GValue))) => [(10000000, [(.trs 1 (y.map (cSl 3 cGValue)))])]) (iCopyRows_X p0) := by
 intro r h
 rw [iCopyRows_X] at h
 refine ao triCopyRows_X (si (oi (sx 1 (ni (xi (si (oi (bslS_step (l := ([] : List (List GValue))) (f := (cSl 3 cGValue)) (g := (cSl 3 cGValue)) (by kernel_rfl) (fun _ => rfl) (by kernel_rfl) rfl (sx 1 (ni (xi (si (si (oi (sx 1 (lq p0 (sx 1 (ni (xi (bi ?_))))))))))))))))))))
 exact lgs (OK_iCopyRows_X_L0 _ _ _ _ h) (tw [.rn [(6, 60014000)]] (wr [] eS bS))
theorem OK_iSortRows (p0 : (List (List GValue))) : FOk Try.prog 10 [(.d (.sl 1 (p0.map (cSl 3 cGValue))))] (fun y => (.d (.sl 1 (y.map (cSl 3 cGValue))))) (iSortRows p0) := by
 intro r h
 rw [iSortRows] at h
 refine ao triSortRows (si (oi (sx 1 (ni (xi (si (oi (sx 1 (cg ⟨[], [], [], [], [], [], [(10000000, 40060000)], [], []⟩ h (OK_iCopyRows_X _) fun y1 h => (sx 1 (ni (xi (si (oi (sx 1 (cg ⟨[(3000000, 40060000)], [], [], [], [], [], [], [], []⟩ h (OK_gSlices_SortStableFunc_SSimpl_Value_Simpl_Value_iOrderRow _) fun y2 h => (ni (xi (si (oi (sx 2 (ni (xi ?_)))))))))))))))))))))))
 refine ret_wk (s' := ⟨[(2, (.d (.sl 1 (y2.map (cSl 3 cGValue)))))], []⟩) (tw [.frz [40060000]] (wr [] eS br_nil)) ?_
 injection h with h; subst h
 exact rp
theorem OK_iSameBag (p0 : (List (List GValue))) (p1 : (List (List GValue))) : FOk Try.prog 6 [(.d (.sl 1 (p0.map (cSl 3 cGValue)))), (.d (.sl 1 (p1.map (cSl 3 cGValue))))] (fun y => (vB y)) (iSameBag p0 p1) := by
 intro r h
 rw [iSameBag] at h
 refine ao triSameBag (si (oi (sx 1 (ni (xi (si (oi (sx 1 (cs h (OK_iSortRows _) fun y1 h => (sx 1 (cs h (OK_iSortRows _) fun y2 h => (cs h (OK_iSameRows _ _) fun y3 h => (sx 1 (ni (xi (ri ?_))))))))))))))))
 injection h with h; subst h
 exact rp
theorem OK_sL1Byte_J0 (p0 x3 b1000000_1 r) (h : sL1Byte_J0 p0 x3 b1000000_1 = some r) : mosL1Byte_J0 p0 x3 b1000000_1 r := by
 rw [sL1Byte_J0] at h
 delta mosL1Byte_J0 acsL1Byte_J0
 refine si (oi (sx 2 (ni (xi (ri ?_)))))
 injection h with h; subst h
 exact rb
theorem OK_sL1Byte (p0 : GL1Cur) : FOkB Try.prog 27 [(.ptr 1000000 0)] [(1000000, bGL1Cur p0)] (fun (y : Int × GL1Cur) => (vI y.1)) (fun (y : Int × GL1Cur) => [(1000000, bGL1Cur y.2)]) (sL1Byte p0) := by
 intro r h
 rw [sL1Byte] at h
 refine ao trsL1Byte (si (oi (sx 1 (ni (xi (si (oi (sx 10 (ni (xi (si (dops_in (dsx 13 (dnil_in (by kernel_rfl) (by kernel_rfl) (xi (si (si (dops_in (dsx 8 (dlqf cU8 p0.b (dsx 1 (dnil_in (by kernel_rfl) (by kernel_rfl) (xi ?_)))))))))))))))))))))))
 refine cd h (fun h => ?_) fun h => ?_
 exact si (dops_in (dsx 9 (diqf cU8 h fun y1 h => (dsx 5 (dnil_in (by kernel_rfl) (by kernel_rfl) (xi (oi (sx 9 (ni (nxs (OK_sL1Byte_J0 _ _ _ _ h) (wr [] eS bS)))))))))))
 exact ki (nxs (OK_sL1Byte_J0 _ _ _ _ h) (wr [] eS bS))
theorem OK_sL1Below (p0 : GL1Cur) (p1 : Int) : FOkB Try.prog 18 [(.ptr 1000000 0), (vI p1)] [(1000000, bGL1Cur p0)] (fun (y : Int × GL1Cur) => (vI y.1)) (fun (y : Int × GL1Cur) => [(1000000, bGL1Cur y.2)]) (sL1Below p0 p1) := by
 intro r h
 rw [sL1Below] at h
 refine ao trsL1Below (si (oi (sx 1 (ni (xi (si (si (oi (sx 2 (ni (xi ?_)))))))))))
 refine cd h (fun h => ?_) fun h => ?_
 refine si (oi (sx 1 (ni (xi (ri (tr ?_))))))
 injection h with h; subst h
 exact rb
 refine ki (xi (si (si (oi (sx 2 (ni (xi ?_)))))))
 refine cd h (fun h => ?_) fun h => ?_
 refine si (oi (sx 1 (cg c1_ h (OK_sL1Byte _) fun y1 h => (sx 1 (vs (fun (y : Int) => (vI y)) h (fun y hy => vop_rem (k := .i64) (a := y1.1) (b := p1) hy (by kernel_rfl) (by kernel_rfl) (by kernel_rfl)) fun y2 h => (sx 1 (ni (xi (ri (tr ?_))))))))))
 injection h with h; subst h
 exact rb
 refine ki (xi (si (oi (sx 1 (cg c1_ h (OK_sL1Byte _) fun y3 h => (sx 1 (ni (xi (si (oi (sx 1 (cg c1_ h (OK_sL1Byte _) fun y4 h => (sx 1 (ni (xi (si (oi (sx 1 (cg c1_ h (OK_sL1Byte _) fun y5 h => (sx 1 (ni (xi (si (oi (sx 1 ?_)))))))))))))))))))))))))
 refine cg c1_ h (OK_sL1Byte _) fun y6 h => (sx 1 (ni (xi (si (oi (sx 11 ?_))))))
 refine vs (fun (y : Int) => (vI y)) h (fun y hy => vop_rem (k := .i64) (a := (IntKind.wrap .i64 ((IntKind.wrap .i64 ((IntKind.wrap .i64 ((IntKind.wrap .i64 (y3.1 * 16777216)) + (IntKind.wrap .i64 (y4.1 * 65536)))) + (IntKind.wrap .i64 (y5.1 * 256)))) + y6.1))) (b := p1) hy (by kernel_rfl) (by kernel_rfl) (by kernel_rfl)) fun y7 h => (sx 1 (ni (xi (ri ?_))))
 injection h with h; subst h
 exact rb
theorem OKs_sL1New_L0 (p0) : (∀ x3 x4 r, sL1New_L0 p0 x3 x4 = some r → mosL1New_L0 p0 x3 x4 r) := by
 refine sL1New_L0.partial_correctness p0 (mosL1New_L0 p0) ?_
 · intro F_sL1New_L0 OK_sL1New_L0 x3 x4 r h
   delta mosL1New_L0 acsL1New_L0
   refine loop_unroll (si (si (oi (sx 2 (lqf cU8 p0 (sx 2 (gq 0 (gq 1 (pkA h fun y1 h => (ni (xi ?_)))))))))))
   refine cd h (fun h => ?_) fun h => ?_
   exact ki (xi (si (bi (oi (sx 4 (iqf cU8 h fun y2 h => (sx 6 (ni (bn (xi (oi (sx 3 (ni (lbs (OK_sL1New_L0 _ _ _ h) (wr [] eS br_nil)))))))))))))))
   refine ei (te (te (bh (xi (si (oi (sx 5 (ni (xi (ri ?_))))))))))
   injection h with h; subst h
   exact rb
theorem OK_sL1New_L0 (p0 x3 x4 r) (h : sL1New_L0 p0 x3 x4 = some r) : mosL1New_L0 p0 x3 x4 r := (OKs_sL1New_L0 p0) x3 x4 r h
theorem OK_sL1New (p0 : (List Int)) : FOkB Try.prog 15 [(.d (.sl 1 (p0.map cU8)))] [] (fun (y : GL1Cur) => (.ptr 31 0)) (fun (y : GL1Cur) => [(31, bGL1Cur y)]) (sL1New p0) := by
 intro r h
 rw [sL1New] at h
 exact ao trsL1New (si (oi (sx 1 (ni (xi (si (oi (sx 1 (lqf cU8 p0 (sx 2 (ni (xi (si (si (oi (sx 1 (ni (xi (bi (lgs (OK_sL1New_L0 _ _ _ _ h) (wr [] eS br_nil)))))))))))))))))))))
theorem OK_sIntValue (p0 : Int) : FOk Try.prog 25 [(vI p0)] (fun y => (vGValue y)) (sIntValue p0) := by
 intro r h
 rw [sIntValue] at h
 refine ao trsIntValue (si (oi (sx 1 (ni (xi (si (oi (sx 3 (ni (xi (ri ?_)))))))))))
 injection h with h; subst h
 exact rp
theorem OK_sBoolValue (p0 : Bool) : FOk Try.prog 36 [(vB p0)] (fun y => (vGValue y)) (sBoolValue p0) := by
 intro r h
 rw [sBoolValue] at h
 refine ao trsBoolValue (si (oi (sx 1 (ni (xi (si (si (oi (sx 1 (ni (xi ?_)))))))))))
 refine cd h (fun h => ?_) fun h => ?_
 refine si (oi (sx 2 (ni (xi (ri (tr ?_))))))
 injection h with h; subst h
 exact rp
 refine ki (xi (si (oi (sx 2 (ni (xi (ri ?_)))))))
 injection h with h; subst h
 exact rp
theorem OK_sL1Once (p0 : GL1Cur) (p1 : Int) : FOkB Try.prog 33 [(.ptr 1000000 0), (vI p1)] [(1000000, bGL1Cur p0)] (fun (y : Bool × GL1Cur) => (vB y.1)) (fun (y : Bool × GL1Cur) => [(1000000, bGL1Cur y.2)]) (sL1Once p0 p1) := by
 intro r h
 rw [sL1Once] at h
 refine ao trsL1Once (si (oi (sx 1 (ni (xi (si (oi (sx 2 (cg c1_ h (OK_sL1Below _ _) fun y1 h => (sx 2 (ni (xi (ri ?_)))))))))))))
 injection h with h; subst h
 exact rb
theorem OK_sL1Pick (p0 : GL1Cur) (p1 : (List (List UInt8))) : FOkB Try.prog 35 [(.ptr 1000000 0), (.d (.sl 1 (p1.map cStr)))] [(1000000, bGL1Cur p0)] (fun (y : (List UInt8) × GL1Cur) => (vS y.1)) (fun (y : (List UInt8) × GL1Cur) => [(1000000, bGL1Cur y.2)]) (sL1Pick p0 p1) := by
 intro r h
 rw [sL1Pick] at h
 refine ao trsL1Pick (si (oi (sx 1 (ni (xi (si (oi (sx 3 (lq p1 (cg c1_ h (OK_sL1Below _ _) fun y1 h => (iq h fun y2 h => (sx 2 (ni (xi (ri ?_)))))))))))))))
 injection h with h; subst h
 exact rb
theorem OK_sL1PickInt (p0 : GL1Cur) (p1 : (List Int)) : FOkB Try.prog 43 [(.ptr 1000000 0), (.d (.sl 1 (p1.map cI)))] [(1000000, bGL1Cur p0)] (fun (y : Int × GL1Cur) => (vI y.1)) (fun (y : Int × GL1Cur) => [(1000000, bGL1Cur y.2)]) (sL1PickInt p0 p1) := by
 intro r h
 rw [sL1PickInt] at h
 refine ao trsL1PickInt (si (oi (sx 1 (ni (xi (si (oi (sx 3 (lqf cI p1 (cg c1_ h (OK_sL1Below _ _) fun y1 h => (iqf cI h fun y2 h => (sx 2 (ni (xi (ri ?_)))))))))))))))
 injection h with h; subst h
 exact rb
theorem OK_sL1Whole (p0 : GL1Cur) : FOkB Try.prog 37 [(.ptr 1000000 0)] [(1000000, bGL1Cur p0)] (fun (y : Int × GL1Cur) => (vI y.1)) (fun (y : Int × GL1Cur) => [(1000000, bGL1Cur y.2)]) (sL1Whole p0) := by
 intro r h
 rw [sL1Whole] at h
 refine ao trsL1Whole (si (oi (sx 1 (ni (xi (si (si (oi (sx 1 (cg c1_ h (OK_sL1Below _ _) fun y1 h => (ni (xi (bi (si (oi (sx 2 (ni (xi ?_))))))))))))))))))
 refine cd h (fun h => ?_) fun h => ?_
 refine si (oi (sx 1 (bsl_step (l := ([0, 1, (-1), 63, 64, (-64), (-65), 127, 128, 16383, 16384, 9223372036854775807, (-9223372036854775808), 4611686018427387904] : List Int)) (f := cI) (g := cI) (by kernel_rfl) (fun _ => rfl) (by kernel_rfl) (cg c1_ h (OK_sL1PickInt _ _) fun y2 h => (sx 1 (ni (xi (ri (br (tr ?_))))))))))
 injection h with h; subst h
 exact rb
 refine si (oi (sx 2 (ni (xi ?_))))
 refine cd h (fun h => ?_) fun h => ?_
 refine si (oi (sx 1 (cg c1_ h (OK_sL1Below _ _) fun y3 h => (sx 2 (ni (xi (ri (br (tr ?_)))))))))
 injection h with h; subst h
 exact rb
 refine ki (bn (xi (si (oi (sx 1 (cg c1_ h (OK_sL1Below _ _) fun y4 h => (sx 1 (ni (xi (ri ?_))))))))))
 injection h with h; subst h
 exact rb
theorem OK_sTextValue (p0 : (List UInt8)) : FOk Try.prog 34 [(vS p0)] (fun y => (vGValue y)) (sTextValue p0) := by
 intro r h
 rw [sTextValue] at h
 refine ao trsTextValue (si (oi (sx 1 (ni (xi (si (oi (sx 3 (ni (xi (ri ?_)))))))))))
 injection h with h; subst h
 exact rp
theorem OK_sL6Typed (p0 : GL1Cur) (p1 : Int) : FOkB Try.prog 26 [(.ptr 1000000 0), (vI p1)] [(1000000, bGL1Cur p0)] (fun (y : GValue × GL1Cur) => (vGValue y.1)) (fun (y : GValue × GL1Cur) => [(1000000, bGL1Cur y.2)]) (sL6Typed p0 p1) := by
 intro r h
 rw [sL6Typed] at h
 refine ao trsL6Typed (si (oi (sx 1 (ni (xi (si (si (oi (sx 1 (cg c1_ h (OK_sL1Once _ _) fun y1 h => (ni (xi ?_))))))))))))
 refine cd h (fun h => ?_) fun h => ?_
 refine si (oi (sx 2 (ni (xi (ri (tr ?_))))))
 injection h with h; subst h
 exact rb
 refine ki (xi (si (si (oi (sx 1 (ni (xi (bi (si (oi (sx 2 (ni (xi ?_)))))))))))))
 refine cd h (fun h => ?_) fun h => ?_
 refine si (oi (sx 1 (bsl_step (l := ([[], [97], [98], [97, 98]] : List (List UInt8))) (f := cStr) (g := cStr) (by kernel_rfl) (fun _ => rfl) (by kernel_rfl) (cg c1_ h (OK_sL1Pick _ _) fun y2 h => (cs h (OK_sTextValue _) fun y3 h => (sx 1 (ni (xi (ri (br (tr ?_)))))))))))
 injection h with h; subst h
 exact rb
 refine si (oi (sx 2 (ni (xi ?_))))
 refine cd h (fun h => ?_) fun h => ?_
 refine si (oi (sx 1 (cg c1_ h (OK_sL1Once _ _) fun y4 h => (cs h (OK_sBoolValue _) fun y5 h => (sx 1 (ni (xi (ri (br (tr ?_))))))))))
 injection h with h; subst h
 exact rb
 refine ki (bn (xi (si (oi (sx 1 (cg c1_ h (OK_sL1Whole _) fun y6 h => (cs h (OK_sIntValue _) fun y7 h => (sx 1 (ni (xi (ri ?_)))))))))))
 injection h with h; subst h
 exact rb
theorem OKs_sL26Rows_L0 (y1) : (∀ x3 x5 b1000000_0 b1000000_1 b1000000_2 r, sL26Rows_L0 y1 x3 x5 b1000000_0 b1000000_1 b1000000_2 = some r → mosL26Rows_L0 y1 x3 x5 b1000000_0 b1000000_1 b1000000_2 r) := by
 refine sL26Rows_L0.partial_correctness y1 (mosL26Rows_L0 y1) ?_
 · intro F_sL26Rows_L0 OK_sL26Rows_L0 x3 x5 b1000000_0 b1000000_1 b1000000_2 r h
   delta mosL26Rows_L0 acsL26Rows_L0
   refine loop_unroll (si (si (oi (sx 3 (ni (xi ?_))))))
   refine cd h (fun h => ?_) fun h => ?_
   refine ki (xi (si (bi (oi (sx 2 (cg c1_ h (OK_sL1Below _ _) fun y2 h => (cs h (OK_sIntValue _) fun y3 h => (sx 2 (cg c1_ h (OK_sL1Below _ _) fun y4 h => (sx 1 (cg c1_ h (OK_sL6Typed _ _) fun y5 h => ?_)))))))))))
   refine bsl_step (l := ([y3, y5.1] : List GValue)) (f := cGValue) (g := cGValue) (by kernel_rfl) (fun _ => rfl) (by kernel_rfl) (sx 1 (cg c1_ h (OK_sL1Below _ _) fun y6 h => (sx 1 ?_)))
   refine vs (fun (y : (List GValue)) => (.d (.sl 3 (y.map cGValue)))) h (fun y hy => vop_slc (l := ([y3, y5.1] : List GValue)) (f := cGValue) (lo := 0) (hi := (IntKind.wrap .i64 (1 + y6.1))) hy (by kernel_rfl) (by kernel_rfl) ⟨(by kernel_rfl), .i64, (by kernel_rfl)⟩ rfl) fun y7 h => ?_
   exact bsl_step (l := ([y7] : List (List GValue))) (f := (cSl 3 cGValue)) (g := (cSl 3 cGValue)) (by kernel_rfl) (fun _ => rfl) (by kernel_rfl) (aq 3 (cSl 3 cGValue) h fun y8 h => (sx 1 (ni (bn (xi (oi (sx 3 (ni (lbs (OK_sL26Rows_L0 _ _ _ _ _ _ h) (wr [(3, .old 3)] (es (eo 3 eS)) bS))))))))))
   refine ei (te (te (bh (xi (si (oi (sx 2 (ni (xi ?_)))))))))
   refine ret_wk (s' := ⟨[(2, (.osl 2000000 28 1 (x3.map (cSl 3 cGValue))))], [(1000000, bGL1Cur (GL1Cur.mk b1000000_0 b1000000_1 b1000000_2))]⟩) (wr [(2000000, .old 2)] (eo 2 er_nil) bS) ?_
   injection h with h; subst h
   exact rb
theorem OK_sL26Rows_L0 (y1 x3 x5 b1000000_0 b1000000_1 b1000000_2 r) (h : sL26Rows_L0 y1 x3 x5 b1000000_0 b1000000_1 b1000000_2 = some r) : mosL26Rows_L0 y1 x3 x5 b1000000_0 b1000000_1 b1000000_2 r := (OKs_sL26Rows_L0 y1) x3 x5 b1000000_0 b1000000_1 b1000000_2 r h
theorem OK_sL26Rows (p0 : GL1Cur) : FOkB Try.prog 16 [(.ptr 1000000 0)] [(1000000, bGL1Cur p0)] (fun (y : (List (List GValue)) × GL1Cur) => (.osl 2000000 28 1 (y.1.map (cSl 3 cGValue)))) (fun (y : (List (List GValue)) × GL1Cur) => [(1000000, bGL1Cur y.2)]) (sL26Rows p0) := by
 intro r h
 rw [sL26Rows] at h
 refine ao trsL26Rows (si (oi (sx 1 (ni (xi (si (oi (bsl_step (l := ([] : List (List GValue))) (f := (cSl 3 cGValue)) (g := (cSl 3 cGValue)) (by kernel_rfl) (fun _ => rfl) (by kernel_rfl) (sx 1 (ni (xi (si (oi (sx 1 (cg c1_ h (OK_sL1Below _ _) fun y1 h => (sx 1 (ni (xi (si (si (oi (sx 1 (ni (xi (bi ?_)))))))))))))))))))))))))
 exact lgs (OK_sL26Rows_L0 _ _ _ _ _ _ _ h) (wr [(3, .old 3)] (es (eo 3 eS)) bS)
theorem OK_sL26Two_J0 (y2 x6 r) (h : sL26Two_J0 y2 x6 = some r) : mosL26Two_J0 y2 x6 r := by
 rw [sL26Two_J0] at h
 delta mosL26Two_J0 acsL26Two_J0
 refine si (oi (sx 4 (ni (xi (ret_wk (s' := ⟨[(2, (.osl 2000000 28 1 (y2.1.map (cSl 3 cGValue)))), (3, (.d (.sl 1 (x6.map (cSl 3 cGValue)))))], []⟩) (wr [(2000000, .old 2)] (eo 2 eS) br_nil) ?_)))))
 injection h with h; subst h
 exact rnb
theorem OK_sL5Row (p0 : (List GValue)) : FOkB Try.prog 24 [(.d (.sl 3 (p0.map cGValue)))] [] (fun (y : (List GValue)) => (.osl 2000000 33 3 (y.map cGValue))) (fun (y : (List GValue)) => []) (sL5Row p0) := by
 intro r h
 rw [sL5Row] at h
 refine ao trsL5Row (si (oi (sx 1 (ni (xi (si (oi (bsl_step (l := ([] : List GValue)) (f := cGValue) (g := cGValue) (by kernel_rfl) (fun _ => rfl) (by kernel_rfl) (sx 1 (aq 3 cGValue h fun y1 h => (sx 1 (ni (xi (ret_wk (s' := ⟨[(2, (.osl 2000000 33 3 (y1.map cGValue)))], []⟩) (wr [(2000000, .old 2)] (eo 2 er_nil) br_nil) ?_))))))))))))))
 injection h with h; subst h
 exact rb
theorem OKs_sL5Rows_X_L0 (p0) : (∀ x4 b60012000_0 r, sL5Rows_X_L0 p0 x4 b60012000_0 = some r → mosL5Rows_X_L0 p0 x4 b60012000_0 r) := by
 refine sL5Rows_X_L0.partial_correctness p0 (mosL5Rows_X_L0 p0) ?_
 · intro F_sL5Rows_X_L0 OK_sL5Rows_X_L0 x4 b60012000_0 r h
   delta mosL5Rows_X_L0 acsL5Rows_X_L0
   refine loop_unroll (si (si (oi (sx 2 (lq p0 (sx 1 (ni (xi ?_))))))))
   refine cd h (fun h => ?_) fun h => ?_
   refine ki (xi (si (bi (oi (sx 3 (iq h fun y1 h => (sx 1 (cg ⟨[], [], [], [], [], [(2000000, 17)], [], [17], []⟩ h (OK_sL5Row _) fun y2 h => (bsl_step (l := ([y2] : List (List GValue))) (f := (cSl 3 cGValue)) (g := (cSl 3 cGValue)) (by kernel_rfl) (fun _ => rfl) (by kernel_rfl) ?_)))))))))
   exact appS_step (l := b60012000_0) (m := ([y2] : List (List GValue))) (f := (cSl 3 cGValue)) [60012000] h (by kernel_rfl) (by kernel_rfl) (by kernel_rfl) (by kernel_rfl) (fun _ => rfl) fun y3 h => (sx 1 (ni (bn (xi (oi (sx 3 (ni (lbs (OK_sL5Rows_X_L0 _ _ _ h) (tw [.rn [(19, 60012000)]] (wr [] eS bS))))))))))
   refine ei (te (te (bh (xi (si (oi (sx 2 (ni (xi (ret_wk (s' := ⟨[(2, (.tre 10000000))], [(10000000, [(.trs 1 (b60012000_0.map (cSl 3 cGValue)))])]⟩) (tw [.rn [(60012000, 10000000)]] (wr [] eS bS)) ?_))))))))))
   injection h with h; subst h
   exact rb
theorem OK_sL5Rows_X_L0 (p0 x4 b60012000_0 r) (h : sL5Rows_X_L0 p0 x4 b60012000_0 = some r) : mosL5Rows_X_L0 p0 x4 b60012000_0 r := (OKs_sL5Rows_X_L0 p0) x4 b60012000_0 r h
theorem OK_sL5Rows_X (p0 : (List (List GValue))) : FOkB Try.prog 17 [(.d (.sl 1 (p0.map (cSl 3 cGValue))))] [] (fun (y : (List (List GValue))) => (.tre 10000000)) (fun (y : (List (List GValue))) => [(10000000, [(.trs 1 (y.map (cSl 3 cGValue)))])]) (sL5Rows_X p0) := by
 intro r h
 rw [sL5Rows_X] at h
 exact ao trsL5Rows_X (si (oi (sx 1 (ni (xi (si (oi (bslS_step (l := ([] : List (List GValue))) (f := (cSl 3 cGValue)) (g := (cSl 3 cGValue)) (by kernel_rfl) (fun _ => rfl) (by kernel_rfl) rfl (sx 1 (ni (xi (si (si (oi (sx 1 (ni (xi (bi (lgs (OK_sL5Rows_X_L0 _ _ _ _ h) (tw [.rn [(5, 60012000)]] (wr [] eS bS)))))))))))))))))))))
theorem OK_sOrder (p0 : GValue) (p1 : GValue) : FOk Try.prog 32 [(vGValue p0), (vGValue p1)] (fun y => (vI y)) (sOrder p0 p1) := by
 intro r h
 rw [sOrder] at h
 refine ao trsOrder (si (oi (sx 3 (ni (xi (si (bi (si (oi (sx 6 (ni (xi ?_))))))))))))
 refine cd h (fun h => ?_) fun h => ?_
 refine si (oi (sx 1 (ni (xi (ri (br (tr ?_)))))))
 injection h with h; subst h
 exact rp
 refine si (oi (sx 6 (ni (xi ?_))))
 refine cd h (fun h => ?_) fun h => ?_
 refine si (oi (sx 1 (ni (xi (ri (br (tr ?_)))))))
 injection h with h; subst h
 exact rp
 refine si (oi (sx 6 (ni (xi ?_))))
 refine cd h (fun h => ?_) fun h => ?_
 refine si (oi (sx 1 (ni (xi (ri (br (tr ?_)))))))
 injection h with h; subst h
 exact rp
 refine si (oi (sx 6 (ni (xi ?_))))
 refine cd h (fun h => ?_) fun h => ?_
 refine si (oi (sx 1 (ni (xi (ri (br (tr ?_)))))))
 injection h with h; subst h
 exact rp
 refine si (oi (sx 6 (ni (xi ?_))))
 refine cd h (fun h => ?_) fun h => ?_
 refine si (oi (sx 1 (ni (xi (ri (br (tr ?_)))))))
 injection h with h; subst h
 exact rp
 refine si (oi (sx 6 (ni (xi ?_))))
 refine cd h (fun h => ?_) fun h => ?_
 refine si (oi (sx 1 (ni (xi (ri (br (tr ?_)))))))
 injection h with h; subst h
 exact rp
 refine ki (bn (xi (si (oi (sx 1 (ni (xi (ri ?_))))))))
 injection h with h; subst h
 exact rp
theorem OKs_sOrderRow_L0 (p0) (p1) : (∀ x5 r, sOrderRow_L0 p0 p1 x5 = some r → mosOrderRow_L0 p0 p1 x5 r) := by
 refine sOrderRow_L0.partial_correctness p0 p1 (mosOrderRow_L0 p0 p1) ?_
 · intro F_sOrderRow_L0 OK_sOrderRow_L0 x5 r h
   delta mosOrderRow_L0 acsOrderRow_L0
   refine loop_unroll (si (si (oi (sx 2 (lq p0 (sx 2 (gq 0 (gq 0 (glq 1 p1 (gq 2 (pkA h fun y1 h => (ni (xi ?_)))))))))))))
   refine cd h (fun h => ?_) fun h => ?_
   refine ki (xi (si (bi (si (dops_in (dsx 2 (diq h fun y2 h => (dsx 3 (diq h fun y3 h => (dsx 1 (dcs h (OK_sOrder _ _) fun y4 h => (dsx 1 (dnil_in (by kernel_rfl) (by kernel_rfl) (xi (si (oi (sx 2 (ni (xi ?_)))))))))))))))))))
   refine cd h (fun h => ?_) fun h => ?_
   refine si (oi (sx 2 (ni (xi (ri (br (tr (tr (br (tr ?_))))))))))
   injection h with h; subst h
   exact rp
   exact ki (bn (xi (oi (sx 3 (ni (lbs (OK_sOrderRow_L0 _ _ h) (wr [] eS br_nil)))))))
   refine ei (te (te (bh (xi (si (bi (si (oi (sx 1 (lq p0 (sx 1 (lq p1 (sx 2 (ni (xi ?_)))))))))))))))
   refine cd h (fun h => ?_) fun h => ?_
   refine si (oi (sx 1 (ni (xi (ri (br (tr ?_)))))))
   injection h with h; subst h
   exact rp
   refine si (oi (sx 1 (lq p0 (sx 1 (lq p1 (sx 2 (ni (xi ?_))))))))
   refine cd h (fun h => ?_) fun h => ?_
   refine si (oi (sx 1 (ni (xi (ri (br (tr ?_)))))))
   injection h with h; subst h
   exact rp
   refine ki (bn (xi (si (oi (sx 1 (ni (xi (ri ?_))))))))
   injection h with h; subst h
   exact rp
theorem OK_sOrderRow_L0 (p0 p1 x5 r) (h : sOrderRow_L0 p0 p1 x5 = some r) : mosOrderRow_L0 p0 p1 x5 r := (OKs_sOrderRow_L0 p0 p1) x5 r h
theorem OK_sOrderRow (p0 : (List GValue)) (p1 : (List GValue)) : FOk Try.prog 23 [(.d (.sl 3 (p0.map cGValue))), (.d (.sl 3 (p1.map cGValue)))] (fun y => (vI y)) (sOrderRow p0 p1) := by
 intro r h
 rw [sOrderRow] at h
 exact ao trsOrderRow (si (oi (sx 1 (ni (xi (si (si (oi (sx 1 (ni (xi (bi (lgs (OK_sOrderRow_L0 _ _ _ _ h) (wr [] eS br_nil))))))))))))))
theorem OKs_sSortRows_L1 (p0) : (∀ x3 x4 x5 r, sSortRows_L1 p0 x3 x4 x5 = some r → mosSortRows_L1 p0 x3 x4 x5 r) ∧ (∀ x3 x4 r, sSortRows_L0 p0 x3 x4 = some r → mosSortRows_L0 p0 x3 x4 r) := by
 refine sSortRows_L1.mutual_partial_correctness p0 (mosSortRows_L1 p0) (mosSortRows_L0 p0) ?_ ?_
 · intro F_sSortRows_L1 F_sSortRows_L0 OK_sSortRows_L1 OK_sSortRows_L0 x3 x4 x5 r h
   delta mosSortRows_L1 acsSortRows_L1
   refine loop_unroll (si (si (dops_in (dsx 3 (dgq 0 (dgq 0 (dgq 1 ?_)))))))
   refine dgv_step (p := true) (b := (decide (0 < x5))) (m := idx x3 (IntKind.wrap .i64 (x5 - 1))) (dflt := default) (v' := fun y => (.rp [(.sl 3 (y.map cGValue))])) h (by kernel_rfl) rfl rfl (fun y hy hc => vop_ia (l := x3) (f := (cSl 3 cGValue)) (g := (cSl 3 cGValue)) (k := .i64) hy (fun _ => rfl) (Eq.trans (b := ([(true && ((decide (0 < x5)) == true)), (true && ((decide (0 < x5)) == true))] : List Bool).all id) (by kernel_rfl) (all_c hc (all_c hc rfl))) (by kernel_rfl) (by kernel_rfl)) fun y1 h => ?_
   refine dgq 1 (dgq 0 (dgq 0 ?_))
   refine dgv_step (p := true) (b := (decide (0 < x5))) (m := idx p0 x4) (dflt := default) (v' := fun y => (.rp [(.sl 3 (y.map cGValue))])) h (by kernel_rfl) rfl rfl (fun y hy hc => vop_ia (l := p0) (f := (cSl 3 cGValue)) (g := (cSl 3 cGValue)) (k := .i64) hy (fun _ => rfl) (Eq.trans (b := ([(true && ((decide (0 < x5)) == true)), (true && ((decide (0 < x5)) == true))] : List Bool).all id) (by kernel_rfl) (all_c hc (all_c hc rfl))) (by kernel_rfl) (by kernel_rfl)) fun y2 h => ?_
   refine dgq 1 (dgc 2 h (OK_sOrderRow _ _) fun y3 h => (dgq 1 (dpkA h fun y4 h => (dnil_in (by kernel_rfl) (by kernel_rfl) (xi ?_)))))
   refine cd h (fun h => ?_) fun h => ?_
   exact ki (xi (bi (oi (sx 3 (ni (bn (lbs (OK_sSortRows_L1 _ _ _ _ h) (wr [(3, .old 3)] (es (eo 3 eS)) br_nil))))))))
   refine ei (te (te (bh (xi (si (oi (bsl_step (l := ([] : List (List GValue))) (f := (cSl 3 cGValue)) (g := (cSl 3 cGValue)) (by kernel_rfl) (fun _ => rfl) (by kernel_rfl) (sx 2 ?_))))))))
   refine vs (fun (y : (List (List GValue))) => (.d (.sl 1 (y.map (cSl 3 cGValue))))) h (fun y hy => vop_slc (l := x3) (f := (cSl 3 cGValue)) (lo := 0) (hi := x5) hy (by kernel_rfl) (by kernel_rfl) ⟨(by kernel_rfl), .i64, (by kernel_rfl)⟩ rfl) fun y5 h => (aq 33 (cSl 3 cGValue) h fun y6 h => (sx 1 (ni (xi (si (oi (sx 3 (iq h fun y7 h => (sx 1 ?_)))))))))
   refine cg ⟨[], [], [], [], [], [(2000000, 43)], [], [43], []⟩ h (OK_sL5Row _) fun y8 h => (bsl_step (l := ([y8] : List (List GValue))) (f := (cSl 3 cGValue)) (g := (cSl 3 cGValue)) (by kernel_rfl) (fun _ => rfl) (by kernel_rfl) (aq 6 (cSl 3 cGValue) h fun y9 h => (sx 1 (ni (xi (oi (sx 3 ?_)))))))
   exact vs (fun (y : (List (List GValue))) => (.d (.sl 1 (y.map (cSl 3 cGValue))))) h (fun y hy => vop_slc (l := x3) (f := (cSl 3 cGValue)) (lo := x5) (hi := (ln x3)) hy (by kernel_rfl) (by kernel_rfl) rfl ⟨(by kernel_rfl), .i64, (by kernel_rfl)⟩) fun y10 h => (aq 6 (cSl 3 cGValue) h fun y11 h => (sx 1 (ni (bn (xi (oi (sx 3 (ni (lbs (OK_sSortRows_L0 _ _ _ h) (wr [(3, .old 3)] (es (eo 3 eS)) br_nil))))))))))
 · intro F_sSortRows_L1 OK_sSortRows_L1 x3 x4 r h
   delta mosSortRows_L0 acsSortRows_L0
   refine loop_unroll (si (si (oi (sx 2 (lq p0 (sx 1 (ni (xi ?_))))))))
   refine cd h (fun h => ?_) fun h => ?_
   exact ki (xi (si (bi (si (oi (sx 1 (lq x3 (sx 1 (ni (xi (si (bi (lgs (OK_sSortRows_L1 _ _ _ _ h) (wr [(3, .old 3)] (es (eo 3 eS)) br_nil))))))))))))))
   refine ei (te (te (bh (xi (si (oi (sx 2 (ni (xi (ret_wk (s' := ⟨[(2, (.osl 2000000 28 1 (x3.map (cSl 3 cGValue))))], []⟩) (wr [(2000000, .old 2)] (eo 2 er_nil) br_nil) ?_))))))))))
   injection h with h; subst h
   exact rb
theorem OK_sSortRows_L1 (p0 x3 x4 x5 r) (h : sSortRows_L1 p0 x3 x4 x5 = some r) : mosSortRows_L1 p0 x3 x4 x5 r := (OKs_sSortRows_L1 p0).1 x3 x4 x5 r h
theorem OK_sSortRows_L0 (p0 x3 x4 r) (h : sSortRows_L0 p0 x3 x4 = some r) : mosSortRows_L0 p0 x3 x4 r := (OKs_sSortRows_L1 p0).2 x3 x4 r h
theorem OK_sSortRows (p0 : (List (List GValue))) : FOkB Try.prog 12 [(.d (.sl 1 (p0.map (cSl 3 cGValue))))] [] (fun (y : (List (List GValue))) => (.osl 2000000 28 1 (y.map (cSl 3 cGValue)))) (fun (y : (List (List GValue))) => []) (sSortRows p0) := by
 intro r h
 rw [sSortRows] at h
 exact ao trsSortRows (si (oi (sx 1 (ni (xi (si (oi (bsl_step (l := ([] : List (List GValue))) (f := (cSl 3 cGValue)) (g := (cSl 3 cGValue)) (by kernel_rfl) (fun _ => rfl) (by kernel_rfl) (sx 1 (ni (xi (si (si (oi (sx 1 (ni (xi (bi (lgs (OK_sSortRows_L0 _ _ _ _ h) (wr [(3, .old 3)] (es (eo 3 eS)) br_nil))))))))))))))))))))
theorem OK_sL26Two (p0 : (List Int)) : FOkB Try.prog 9 [(.d (.sl 1 (p0.map cU8)))] [] (fun (y : (List (List GValue)) × (List (List GValue))) => (.tup [(.osl 2000000 28 1 (y.1.map (cSl 3 cGValue))), (.d (.sl 1 (y.2.map (cSl 3 cGValue))))])) (fun (y : (List (List GValue)) × (List (List GValue))) => []) (sL26Two p0) := by
 intro r h
 rw [sL26Two] at h
 refine ao trsL26Two (si (oi (sx 2 (ni (xi (si (oi (sx 1 (cg ⟨[], [], [], [], [], [], [(31, 8)], [], []⟩ h (OK_sL1New _) fun y1 h => (sx 1 (ni (xi (si (oi (sx 1 (cg ⟨[(1000000, 8)], [], [], [], [], [(2000000, 10)], [], [10], []⟩ h (OK_sL26Rows _) fun y2 h => (sx 1 (ni (xi (si (oi (sx 1 (cg ⟨[], [], [], [], [], [], [(10000000, 40170000)], [], []⟩ h (OK_sL5Rows_X _) fun y3 h => (sx 1 (ni ?_)))))))))))))))))))))))))
 refine xi (si (si (oi (sx 1 (cg ⟨[(1000000, 8)], [], [], [], [], [], [], [], []⟩ h (OK_sL1Below _ _) fun y4 h => (ni (xi (bi (si (oi (sx 2 (ni (xi ?_)))))))))))))
 refine cd h (fun h => ?_) fun h => ?_
 exact oi (sx 1 (cg ⟨[(1000000, 8)], [], [], [], [], [(2000000, 18)], [], [18], []⟩ h (OK_sL26Rows _) fun y5 h => (sx 1 (ni (bn (nxs (OK_sL26Two_J0 _ _ _ h) (wr [(5, .old 5)] (eo 5 (ew er_nil)) br_nil)))))))
 refine si (oi (sx 2 (ni (xi ?_))))
 refine cd h (fun h => ?_) fun h => ?_
 refine ops_tw [.own 40170000] (s' := ⟨[(19, (vB (decide (y4.1 = 1)))), (20, (vB (decide (y4.1 = 1)))), (15, (vB (decide (y4.1 = 0)))), (16, (vB (decide (y4.1 = 0)))), (14, (vI y4.1)), (13, (.ptr 8 0)), (6, (.osl 40170000 1000000000 1 (y3.map (cSl 3 cGValue)))), (12, (.osl 40170000 1000000000 1 (y3.map (cSl 3 cGValue)))), (11, (.osl 5 28 1 (y2.1.map (cSl 3 cGValue)))), (5, (.osl 5 28 1 (y2.1.map (cSl 3 cGValue)))), (10, (.d (.sl 1 (y2.1.map (cSl 3 cGValue))))), (9, (.ptr 8 0)), (4, (.ptr 8 0)), (8, (.ptr 8 0)), (7, (.d (.sl 1 (p0.map cU8)))), (3, (.nil 1)), (2, (.nil 1)), (0, (.d (.sl 1 (p0.map cU8))))], [(40170000, [.trd]), (8, bGL1Cur y4.2)]⟩) (by kernel_rfl) ?_
 exact oi (sx 1 (cg ⟨[], [], [], [], [], [(2000000, 22)], [], [22], []⟩ h (OK_sSortRows _) fun y6 h => (sx 1 (ni (bn (nxs (OK_sL26Two_J0 _ _ _ h) (wr [(5, .old 5)] (eo 5 (ew er_nil)) br_nil)))))))
 refine si (oi (sx 2 (ni (xi ?_))))
 refine cd h (fun h => ?_) fun h => ?_
 refine si (oi (sx 1 (ps (vI (ln y3)) (vop_lenT (n := 40170000) (l := y3.map (cSl 3 cGValue)) (L := y3.length) (by kernel_rfl) (by kernel_rfl) (List.length_map ..)) (sx 1 (ni (xi ?_))))))
 refine cd h (fun h => ?_) fun h => ?_
 refine oi (sx 2 (vs (fun (y : (List GValue)) => (.trp 40170000 1 (1 : Int).toNat 0)) h (fun y hy => vop_iaS (n := 40170000) (l := y3) (f := (cSl 3 cGValue)) (k := .i64) (i := 1) hy (by kernel_rfl) (by kernel_rfl) (by kernel_rfl) (by kernel_rfl)) fun y7 h => ?_))
 refine vs (fun (y : (List GValue)) => (.d (.sl 3 (y.map cGValue)))) h (fun y hy => vop_ldS (off := 0) (n := 40170000) (sz := 1) (l := y3) (f := (cSl 3 cGValue)) (g := (cSl 3 cGValue)) (j := 1) hy (fun _ => rfl) (by kernel_rfl) (by kernel_rfl) (by kernel_rfl) (by kernel_rfl)) fun y8 h => ?_
 refine vs (fun (y : (List GValue)) => (.trp 40170000 1 (0 : Int).toNat 0)) h (fun y hy => vop_iaS (n := 40170000) (l := y3) (f := (cSl 3 cGValue)) (k := .i64) (i := 0) hy (by kernel_rfl) (by kernel_rfl) (by kernel_rfl) (by kernel_rfl)) fun y9 h => ?_
 exact stS_step (n := 40170000) (sz := 1) (l := y3) (f := (cSl 3 cGValue)) (j := 0) (v := y8) h (by kernel_rfl) (by kernel_rfl) (fun _ => rfl) (by kernel_rfl) (by kernel_rfl) (fun _ => rfl) fun y10 h => (ni (bn (nxs (OK_sL26Two_J0 _ _ _ h) (tw [.frz [40170000]] (wr [(5, .old 5)] (eo 5 eS) br_nil)))))
 exact ki (bn (nxs (OK_sL26Two_J0 _ _ _ h) (tw [.frz [40170000]] (wr [(5, .old 5)] (eo 5 eS) br_nil))))
 exact ki (bn (nxs (OK_sL26Two_J0 _ _ _ h) (tw [.frz [40170000]] (wr [(5, .old 5)] (eo 5 eS) br_nil))))
theorem OK_sDrawSameBag (p0 : (List Int)) : FOkB Try.prog 5 [(.d (.sl 1 (p0.map cU8)))] [] (fun (y : (List (List GValue)) × (List (List GValue))) => (.tup [(.osl 2000000 28 1 (y.1.map (cSl 3 cGValue))), (.d (.sl 1 (y.2.map (cSl 3 cGValue))))])) (fun (y : (List (List GValue)) × (List (List GValue))) => []) (sDrawSameBag p0) := by
 intro r h
 rw [sDrawSameBag] at h
 refine ao trsDrawSameBag (si (oi (sx 2 (ni (xi (si (oi (sx 1 (cg ⟨[], [], [], [], [], [(2000000, 5007000)], [], [5007000], []⟩ h (OK_sL26Two _) fun y1 h => (sx 4 (ni (xi ?_))))))))))))
 refine ret_wk (s' := ⟨[(2, (.osl 2000000 28 1 (y1.1.map (cSl 3 cGValue)))), (3, (.d (.sl 1 (y1.2.map (cSl 3 cGValue)))))], []⟩) (wr [(2000000, .old 2)] (eo 2 eS) br_nil) ?_
 injection h with h; subst h
 exact rnb
theorem OKs_sL5SameRow_L0 (p0) (p1) : (∀ x5 r, sL5SameRow_L0 p0 p1 x5 = some r → mosL5SameRow_L0 p0 p1 x5 r) := by
 refine sL5SameRow_L0.partial_correctness p0 p1 (mosL5SameRow_L0 p0 p1) ?_
 · intro F_sL5SameRow_L0 OK_sL5SameRow_L0 x5 r h
   delta mosL5SameRow_L0 acsL5SameRow_L0
   refine loop_unroll (si (si (oi (sx 2 (lq p0 (sx 1 (ni (xi ?_))))))))
   refine cd h (fun h => ?_) fun h => ?_
   refine ki (xi (si (bi (si (dops_in (dsx 2 (diq h fun y1 h => (dsx 3 (diq h fun y2 h => (dsx 2 (dnil_in (by kernel_rfl) (by kernel_rfl) (xi ?_))))))))))))
   refine cd h (fun h => ?_) fun h => ?_
   refine si (oi (sx 1 (ni (xi (ri (br (tr (tr (br (tr ?_))))))))))
   injection h with h; subst h
   exact rp
   exact ki (bn (xi (oi (sx 3 (ni (lbs (OK_sL5SameRow_L0 _ _ h) (wr [] eS br_nil)))))))
   refine ei (te (te (bh (xi (si (oi (sx 1 (ni (xi (ri ?_))))))))))
   injection h with h; subst h
   exact rp
theorem OK_sL5SameRow_L0 (p0 p1 x5 r) (h : sL5SameRow_L0 p0 p1 x5 = some r) : mosL5SameRow_L0 p0 p1 x5 r := (OKs_sL5SameRow_L0 p0 p1) x5 r h
theorem OK_sL5SameRow (p0 : (List GValue)) (p1 : (List GValue)) : FOk Try.prog 22 [(.d (.sl 3 (p0.map cGValue))), (.d (.sl 3 (p1.map cGValue)))] (fun y => (vB y)) (sL5SameRow p0 p1) := by
 intro r h
 rw [sL5SameRow] at h
 refine ao trsL5SameRow (si (oi (sx 1 (ni (xi (si (si (oi (sx 1 (lq p0 (sx 1 (lq p1 (sx 1 (ni (xi ?_)))))))))))))))
 refine cd h (fun h => ?_) fun h => ?_
 refine si (oi (sx 1 (ni (xi (ri (tr ?_))))))
 injection h with h; subst h
 exact rp
 exact ki (xi (si (si (oi (sx 1 (ni (xi (bi (lgs (OK_sL5SameRow_L0 _ _ _ _ h) (wr [] eS br_nil))))))))))
theorem OKs_sSameRows_L0 (p0) (p1) : (∀ x5 r, sSameRows_L0 p0 p1 x5 = some r → mosSameRows_L0 p0 p1 x5 r) := by
 refine sSameRows_L0.partial_correctness p0 p1 (mosSameRows_L0 p0 p1) ?_
 · intro F_sSameRows_L0 OK_sSameRows_L0 x5 r h
   delta mosSameRows_L0 acsSameRows_L0
   refine loop_unroll (si (si (oi (sx 2 (lq p0 (sx 1 (ni (xi ?_))))))))
   refine cd h (fun h => ?_) fun h => ?_
   refine ki (xi (si (bi (si (dops_in (dsx 2 (diq h fun y1 h => (dsx 3 (diq h fun y2 h => (dsx 1 (dcs h (OK_sL5SameRow _ _) fun y3 h => (dsx 1 (dnil_in (by kernel_rfl) (by kernel_rfl) (xi ?_))))))))))))))
   refine cd h (fun h => ?_) fun h => ?_
   refine si (oi (sx 1 (ni (xi (ri (br (tr (tr (br (tr ?_))))))))))
   injection h with h; subst h
   exact rp
   exact ki (bn (xi (oi (sx 3 (ni (lbs (OK_sSameRows_L0 _ _ h) (wr [] eS br_nil)))))))
   refine ei (te (te (bh (xi (si (oi (sx 1 (ni (xi (ri ?_))))))))))
   injection h with h; subst h
   exact rp
theorem OK_sSameRows_L0 (p0 p1 x5 r) (h : sSameRows_L0 p0 p1 x5 = some r) : mosSameRows_L0 p0 p1 x5 r := (OKs_sSameRows_L0 p0 p1) x5 r h
theorem OK_sSameRows (p0 : (List (List GValue))) (p1 : (List (List GValue))) : FOk Try.prog 11 [(.d (.sl 1 (p0.map (cSl 3 cGValue)))), (.d (.sl 1 (p1.map (cSl 3 cGValue))))] (fun y => (vB y)) (sSameRows p0 p1) := by
 intro r h
 rw [sSameRows] at h
 refine ao trsSameRows (si (oi (sx 1 (ni (xi (si (si (oi (sx 1 (lq p0 (sx 1 (lq p1 (sx 1 (ni (xi ?_)))))))))))))))
 refine cd h (fun h => ?_) fun h => ?_
 refine si (oi (sx 1 (ni (xi (ri (tr ?_))))))
 injection h with h; subst h
 exact rp
 exact ki (xi (si (si (oi (sx 1 (ni (xi (bi (lgs (OK_sSameRows_L0 _ _ _ _ h) (wr [] eS br_nil))))))))))
theorem OK_sSameBag (p0 : (List (List GValue))) (p1 : (List (List GValue))) : FOk Try.prog 7 [(.d (.sl 1 (p0.map (cSl 3 cGValue)))), (.d (.sl 1 (p1.map (cSl 3 cGValue))))] (fun y => (vB y)) (sSameBag p0 p1) := by
 intro r h
 rw [sSameBag] at h
 refine ao trsSameBag (si (oi (sx 1 (ni (xi (si (oi (sx 1 (cg ⟨[], [], [], [], [], [(2000000, 6)], [], [6], []⟩ h (OK_sSortRows _) fun y1 h => (sx 1 (cg ⟨[], [], [], [], [], [(2000000, 8)], [], [8], []⟩ h (OK_sSortRows _) fun y2 h => (cs h (OK_sSameRows _ _) fun y3 h => (sx 1 (ni (xi (ri ?_))))))))))))))))
 injection h with h; subst h
 exact rp
theorem OK_wBig (p0 : (List Int)) : FOk Try.prog 4 [(.d (.sl 1 (p0.map cU8)))] (fun y => (vB y)) (wBig p0) := by
 intro r h
 rw [wBig] at h
 refine ao trwBig (si (oi (sx 1 (ni (xi (si (oi (sx 1 (lqf cU8 p0 (sx 2 (ni (xi (ri ?_)))))))))))))
 injection h with h; subst h
 exact rp
theorem OKs_wFnBags_L0 (y2) : (∀ x6 x7 r, wFnBags_L0 y2 x6 x7 = some r → mowFnBags_L0 y2 x6 x7 r) := by
 refine wFnBags_L0.partial_correctness y2 (fun x6 x7 r => mowFnBags_L0 y2 x6 x7 r) ?_
 · intro F_wFnBags_L0 OK_wFnBags_L0 x6 x7 r h
   delta mowFnBags_L0 acwFnBags_L0
   refine loop_unroll (si (si (oi (sx 2 (ni (xi ?_))))))
   refine cd h (fun h => ?_) fun h => ?_
   exact ki (xi (si (bi (oi (sx 3 (iq h fun y10 h => (sx 1 (bsl_step (l := ([y10] : List (List GValue))) (f := (cSl 3 cGValue)) (g := (cSl 3 cGValue)) (by kernel_rfl) (fun _ => rfl) (by kernel_rfl) (aq 6 (cSl 3 cGValue) h fun y11 h => (sx 1 (ni (bn (xi (oi (sx 3 (ni (lbs (OK_wFnBags_L0 _ _ _ h) (wr [(3, .old 3), (6, .old 6)] (eo 3 (eo 6 eS)) br_nil))))))))))))))))))
   refine ei (te (te (bh (xi (si (oi (sx 2 (cs h (OK_iSameBag _ _) fun y12 h => (sx 1 (gq 0 (glq 1 y2.1 (gq 1 (gq 1 (gq 0 (gq 0 (gq 0 (giq 1 h fun y13 h => (gq 1 ?_))))))))))))))))))
   refine gbsl_step (l := ([y13] : List (List GValue)).map (cSl 3 cGValue)) (by kernel_rfl) (by kernel_rfl) (fun hc => (Eq.trans (b := ([((true && (y12 == true)) && ((decide ((ln y2.1) = 0)) == false))] : List Bool).all id) (by kernel_rfl) (all_c hc rfl))) (by kernel_rfl) ?_
   refine gapp_step (p := (true && (y12 == true))) (b := (decide ((ln y2.1) = 0))) (e' := 28) (t := 6) (l := x6) (m := ([y13] : List (List GValue))) (f := (cSl 3 cGValue)) (dflt := default) h (by kernel_rfl) (by kernel_rfl) (by kernel_rfl) (by kernel_rfl) (fun hc => (Eq.trans (b := ([((true && (y12 == true)) && ((decide ((ln y2.1) = 0)) == false)), ((true && (y12 == true)) && ((decide ((ln y2.1) = 0)) == false))] : List Bool).all id) (by kernel_rfl) (all_c hc (all_c hc rfl)))) (by kernel_rfl) fun y14 h => ?_
   refine gc 2 h (OK_iSameBag _ _) fun y15 h => (gq 1 ?_)
   refine gv true y12 (fun (y : Bool) => (vB y)) h (fun y hy hc => vop_pickV hy (p := true) (q := ((true && (y12 == true)) && ((decide ((ln y2.1) = 0)) == false))) (Eq.trans (b := ([(true && (y12 == true))] : List Bool).all id) (by kernel_rfl) (all_c hc rfl)) (by kernel_rfl) (by kernel_rfl) (by kernel_rfl) (fun _ => rfl) (fun hb => gc_f hc hb)) fun y16 h => (pkA h fun y17 h => (sx 1 (ni (xi ?_))))
   refine ri ?_
   injection h with h; subst h
   exact rp
theorem OK_wFnBags_L0 (y2 x6 x7 r) (h : wFnBags_L0 y2 x6 x7 = some r) : mowFnBags_L0 y2 x6 x7 r := (OKs_wFnBags_L0 y2) x6 x7 r h
theorem OK_wFnBags (p0 : (List Int)) : FOk Try.prog 3 [(.d (.sl 1 (p0.map cU8)))] (fun y => (vB y)) (wFnBags p0) := by
 intro r h
 rw [wFnBags] at h
 refine ao trwFnBags (si (oi (sx 1 (ni (xi (si (si (oi (sx 1 (cs h (OK_wBig _) fun y1 h => (ni (xi ?_))))))))))))
 refine cd h (fun h => ?_) fun h => ?_
 refine si (oi (sx 1 (ni (xi (ri (tr ?_))))))
 injection h with h; subst h
 exact rp
 refine ki (xi (si (oi (sx 1 (cg ⟨[], [], [], [], [], [(2000000, 5017000)], [], [5017000], []⟩ h (OK_sDrawSameBag _) fun y2 h => (sx 5 (ni (xi (si (oi (sx 2 (cs h (OK_iSameBag _ _) fun y3 h => (sx 1 (ni (xi (si (si (oi (sx 3 (cs h (OK_sSameBag _ _) fun y4 h => (sx 2 (gq 0 (gq 0 (gq 0 (gc 2 h (OK_iSameBag _ _) fun y5 h => (gq 2 (pkO h fun y6 h => (sx 1 (gq 0 (gq 0 (gc 2 h (OK_iSameRows _ _) fun y7 h => (gq 1 (gq 0 ?_)))))))))))))))))))))))))))))))))
 refine gq 1 (gv true y6 (fun (y : Bool) => (vB y)) h (fun y hy hc => vop_pickV hy (p := ((true && (y6 == false)) && (y7 == true))) (q := true) (Eq.trans (b := ([(true && (y6 == false))] : List Bool).all id) (by kernel_rfl) (all_c hc rfl)) (by kernel_rfl) (by kernel_rfl) (by kernel_rfl) (fun hb => gc_t hc hb) (fun _ => rfl)) fun y8 h => (pkO h fun y9 h => (ni (xi ?_))))
 refine cd h (fun h => ?_) fun h => ?_
 refine si (oi (sx 1 (ni (xi (ri (tr ?_))))))
 injection h with h; subst h
 exact rp
 exact ki (xi (si (oi (bsl_step (l := ([] : List (List GValue))) (f := (cSl 3 cGValue)) (g := (cSl 3 cGValue)) (by kernel_rfl) (fun _ => rfl) (by kernel_rfl) (sx 1 (ni (xi (si (si (oi (sx 1 (lq y2.1 (sx 2 (ni (xi (bi (lgs (OK_wFnBags_L0 _ _ _ _ h) (wr [(3, .old 3), (6, .old 6)] (eo 3 (eo 6 eS)) br_nil))))))))))))))))))
theorem law_wFnBags (hp : ∀ (x0 : (List Int)) (_ : (okL okU8) x0), wFnBags x0 = some true) (ls : List (List D)) (hw : WtA Try.prog [22] ls) (hok : ∀ l ∈ ls, ∀ x ∈ l, OkD x) : ACalls Try.prog 3 (argsV Try.prog [22] ls) [] fun x _ => x = .d (.b true) := by
  rcases hw with _ | ⟨h0, hw⟩
  cases hw
  obtain ⟨x0, rfl⟩ := de22 h0
  have a0 : argV Try.prog 22 ((cSl 1 cU8) x0) = (.d (.sl 1 (x0.map cU8))) := by kernel_rfl
  have k0 : ∀ d ∈ (cSl 1 cU8) x0, OkD d := hok _ (by simp)
  simp only [argsV, a0]
  exact OK_wFnBags x0 true (hp x0 (ko_l _ (fun y hy => ko_u8 _ hy) k0))
end Go.Proofs.Ytefdlkkffkhbgaa
