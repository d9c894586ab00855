/- That the code computes these functions (printed by a program). -/
import Derived.Lib.Builder
import Derived.Lib.UnsafeStr
import Derived.Test.YtechmmnknmdacaaGreatDoorAbB
import Derived.Test.YtechmmnknmdacaaGreatDoorAbP
import Derived.Test.YtechmmnknmdacaaGreatDoorAbQ
import Derived.KernelRfl
import Derived.Test.YtechmmnknmdacaaGreatDoorAbG2
import Derived.Test.YtechmmnknmdacaaGreatDoorAbC3
import Derived.Test.YtechmmnknmdacaaGreatDoorAbT7
import Derived.Test.YtechmmnknmdacaaGreatDoorFExactCatalogText
import Derived.Test.YtechmmnknmdacaaGreatDoorProg
namespace Go.Proofs.YtechmmnknmdacaaGreatDoor
open Go Go.RowKit Go.Ab
def cI (n : Int) : List D := [.i .i64 n]
def cU8 (n : Int) : List D := [.i .u8 n]
def cU64 (n : Int) : List D := [.i .u64 n]
def cI32 (n : Int) : List D := [.i .i32 n]
def cU32 (n : Int) : List D := [.i .u32 n]
def cB (b : Bool) : List D := [.b b]
def cStr (s : List UInt8) : List D := [.s (bs s)]
def cSl {α : Type} (sz : Nat) (f : α → List D) (l : List α) : List D := [.sl sz (l.map f)]
def cGCol (x : GCol) : List D := [(.s (bs x.name)), (.i .i64 x.type)]
def vGCol (x : GCol) : V := .agg (cGCol x)
def bGCol (x : GCol) : List V := (cGCol x).map V.d
def cGTable (x : GTable) : List D := [(.s (bs x.name)), (.sl 2 (x.cols.map cGCol))]
def vGTable (x : GTable) : V := .agg (cGTable x)
def bGTable (x : GTable) : List V := (cGTable x).map V.d
def cGCatalog (x : GCatalog) : List D := [(.sl 2 (x.tables.map cGTable))]
def vGCatalog (x : GCatalog) : V := .agg (cGCatalog x)
def bGCatalog (x : GCatalog) : List V := (cGCatalog x).map V.d
def cGToken (x : GToken) : List D := [(.i .i64 x.kind), (.s (bs x.text)), (.i .i64 x.at_)]
def vGToken (x : GToken) : V := .agg (cGToken x)
def bGToken (x : GToken) : List V := (cGToken x).map V.d
def cGPrinter (x : GPrinter) : List D := [(.sl 3 (x.list.map cGToken)), (.b x.full)]
def vGPrinter (x : GPrinter) : V := .agg (cGPrinter x)
def bGPrinter (x : GPrinter) : List V := (cGPrinter x).map V.d
def acwFnExactCatalogText : AC := (.seq (.ops [.box 1 39 0, .asg 2 (kB false)]) (.seq (.ops [.asg 3 (kI 1048576)]) (.seq (.ops [.ld 7 1 true 1, .mv 8 3, .call (some 9) 22 [7, 8], .asg 3 9]) (.seq (.seq (.ops [.mv 10 3, .bin 11 .lss 10 (kI 0)]) (.cond 11 (.seq (.ops [.asg 2 (kB true)]) .ret) .skip)) (.seq (.ops [.ld 12 1 true 1, .call (some 13) 24 [12], .call (some 14) 23 [13], .asg 4 14]) (.seq (.ops [.ld 15 1 true 1, .call (some 16) 24 [15], .alc 5 [(.nil 2)], .st 1 5 16]) (.seq (.ops [.ld 17 1 true 5, .call (some 18) 25 [17], .asg 6 18]) (.seq (.seq (.ops [.mv 19 6, .mv 20 4, .bin 21 .neq 19 20]) (.cond 21 (.seq (.ops [.asg 2 (kB false)]) .ret) .skip)) (.seq (.seq (.dops [[], [], [1], [0, 2, 2], [3]] [.ld 22 1 true 5, .ld 23 1 true 1, .call (some 24) 24 [23], .call (some 25) 26 [22, 24], .not 26 25]) (.cond 26 (.seq (.ops [.asg 2 (kB false)]) .ret) .skip)) (.seq (.ops [.asg 2 (kB true)]) .ret))))))))))
theorem trwFnExactCatalogText : trFn Tryz.prog 7 = some (acwFnExactCatalogText, [.mv 0 2], 27) := by kernel_rfl
def qwFnExactCatalogText (r : Bool) : Exit → St → Prop := retQ [.mv 0 2] fun x _ => x = (fun y => (vB y)) r
def acwToCatalog : AC := (.seq (.ops [.box 1 39 0, .alc 2 [(.nil 2)]]) (.seq (.ops [.alc 3 [(.nil 2)]]) (.seq (.ops [.fa 4 0 1, .ld 5 1 false 4, .call (some 6) 43 [5], .fa 7 0 3, .st 1 7 6]) (.seq (.ops [.ld 8 1 true 3, .st 1 2 8]) .ret))))
theorem trwToCatalog : trFn Tryz.prog 24 = some (acwToCatalog, [.ld 0 1 true 2], 9) := by kernel_rfl
def qwToCatalog (r : GCatalog) : Exit → St → Prop := retQ [.ld 0 1 true 2] fun x _ => x = (fun y => (vGCatalog y)) r
def acwToTableS_L0 : AC := (.loop (.seq (.seq (.ops [.mv 8 4, .mv 9 0, .len 10 9, .bin 11 .lss 8 10]) (.cond 11 .skip (.exit 0))) (.seq (.block 1 (.ops [.mv 14 3, .mv 15 4, .mv 16 0, .mv 17 4, .ia 18 2 16 17, .ld 19 2 true 18, .call (some 20) 81 [19], .ia 21 2 14 15, .st 2 21 20])) (.ops [.mv 12 4, .bin 13 .add 12 (kI 1), .asg 4 13]))))
def acwToTableS : AC := (.seq (.ops [.asg 2 (.c (.nil 2))]) (.seq (.ops [.mv 5 0, .len 6 5, .mks 7 106 2 40 [(.s (bs [])), (.sl 2 [])] 6 6, .asg 3 7]) (.seq (.seq (.ops [.asg 4 (kI 0)]) (.block 0 acwToTableS_L0)) (.seq (.ops [.mv 22 3, .asg 2 22]) .ret))))
theorem trwToTableS : trFn Tryz.prog 43 = some (acwToTableS, [.mv 0 2], 23) := by kernel_rfl
def qwToTableS (r : (List GTable)) : Exit → St → Prop := retQ [.mv 0 2] fun x _ => x = (fun y => (.d (.sl 2 (y.map cGTable)))) r
def qwToTableS_0 (r : (List GTable)) : Exit → St → Prop := (thenK (wkK (avc Tryz.prog (.seq (.ops [.mv 22 3, .asg 2 22]) .ret) (qwToTableS r))) (qwToTableS r))
def qwToTableS_1 (r : (List GTable)) : Exit → St → Prop := (blockK 0 (qwToTableS_0 r))
def stwToTableS_L0 (p0 : (List GTable)) (x4 : Int) (b7_0 : (List GTable)) : St := ⟨[(0, (.d (.sl 2 (p0.map cGTable)))), (3, (.msl 7 2 0 b7_0.length b7_0.length)), (4, (vI x4))], [(7, rowsV (b7_0.map cGTable))]⟩
def acwToTable : AC := (.seq (.ops [.box 1 103 0, .alc 2 [(.d (.s (bs []))), (.nil 2)]]) (.seq (.ops [.alc 3 [(.d (.s (bs []))), (.nil 2)]]) (.seq (.ops [.fa 4 0 1, .ld 5 1 false 4, .fa 6 0 3, .st 1 6 5]) (.seq (.ops [.fa 7 1 1, .ld 8 1 false 7, .call (some 9) 121 [8], .fa 10 1 3, .st 1 10 9]) (.seq (.ops [.ld 11 2 true 3, .st 2 2 11]) .ret)))))
theorem trwToTable : trFn Tryz.prog 81 = some (acwToTable, [.ld 0 2 true 2], 12) := by kernel_rfl
def qwToTable (r : GTable) : Exit → St → Prop := retQ [.ld 0 2 true 2] fun x _ => x = (fun y => (vGTable y)) r
def acwToColS_L0 : AC := (.loop (.seq (.seq (.ops [.mv 8 4, .mv 9 0, .len 10 9, .bin 11 .lss 8 10]) (.cond 11 .skip (.exit 0))) (.seq (.block 1 (.ops [.mv 14 3, .mv 15 4, .mv 16 0, .mv 17 4, .ia 18 2 16 17, .ld 19 2 true 18, .call (some 20) 146 [19], .ia 21 2 14 15, .st 2 21 20])) (.ops [.mv 12 4, .bin 13 .add 12 (kI 1), .asg 4 13]))))
def acwToColS : AC := (.seq (.ops [.asg 2 (.c (.nil 2))]) (.seq (.ops [.mv 5 0, .len 6 5, .mks 7 110 2 24 [(.s (bs [])), (.i .i64 0)] 6 6, .asg 3 7]) (.seq (.seq (.ops [.asg 4 (kI 0)]) (.block 0 acwToColS_L0)) (.seq (.ops [.mv 22 3, .asg 2 22]) .ret))))
theorem trwToColS : trFn Tryz.prog 121 = some (acwToColS, [.mv 0 2], 23) := by kernel_rfl
def qwToColS (r : (List GCol)) : Exit → St → Prop := retQ [.mv 0 2] fun x _ => x = (fun y => (.d (.sl 2 (y.map cGCol)))) r
def qwToColS_0 (r : (List GCol)) : Exit → St → Prop := (thenK (wkK (avc Tryz.prog (.seq (.ops [.mv 22 3, .asg 2 22]) .ret) (qwToColS r))) (qwToColS r))
def qwToColS_1 (r : (List GCol)) : Exit → St → Prop := (blockK 0 (qwToColS_0 r))
def stwToColS_L0 (p0 : (List GCol)) (x4 : Int) (b7_0 : (List GCol)) : St := ⟨[(0, (.d (.sl 2 (p0.map cGCol)))), (3, (.msl 7 2 0 b7_0.length b7_0.length)), (4, (vI x4))], [(7, rowsV (b7_0.map cGCol))]⟩
def acwToCol : AC := (.seq (.ops [.box 1 146 0, .alc 2 [(.d (.s (bs []))), (.d (.i .i64 0))]]) (.seq (.ops [.alc 3 [(.d (.s (bs []))), (.d (.i .i64 0))]]) (.seq (.ops [.fa 4 0 1, .ld 5 1 false 4, .fa 6 0 3, .st 1 6 5]) (.seq (.ops [.fa 7 1 1, .ld 8 1 false 7, .fa 9 1 3, .st 1 9 8]) (.seq (.ops [.ld 10 2 true 3, .st 2 2 10]) .ret)))))
theorem trwToCol : trFn Tryz.prog 146 = some (acwToCol, [.ld 0 2 true 2], 11) := by kernel_rfl
def qwToCol (r : GCol) : Exit → St → Prop := retQ [.ld 0 2 true 2] fun x _ => x = (fun y => (vGCol y)) r
def acsCatalogText : AC := (.seq (.ops [.box 1 44 0, .asg 2 (.c (.d (.s (bs []))))]) (.seq (.seq (.ops [.ld 3 1 true 1, .call (some 4) 41 [3], .not 5 4]) (.cond 5 (.seq (.ops [.asg 2 (.c (.d (.s (bs []))))]) .ret) .skip)) (.seq (.ops [.ld 6 1 true 1, .call (some 7) 42 [6], .call (some 8) 14 [7], .asg 2 8]) .ret)))
theorem trsCatalogText : trFn Tryz.prog 23 = some (acsCatalogText, [.mv 0 2], 9) := by kernel_rfl
def qsCatalogText (r : (List UInt8)) : Exit → St → Prop := retQ [.mv 0 2] fun x _ => x = (fun y => (vS y)) r
def acsCatalogOk_L1 : AC := (.loop (.seq (.seq (.ops [.mv 41 5, .fa 42 1 4, .ld 43 1 false 42, .len 44 43, .bin 45 .lss 41 44]) (.cond 45 .skip (.exit 2))) (.seq (.block 3 (.seq (.dops [[], [0], [], [1, 2], [3], [4], [5], [6], [7, 6], [8], [8], [10, 8], [8], [11, 12, 8], [13, 8], [14, 8], [9, 15, 8, 8], [8], [16, 17, 8], [8, 18], [19, 16], [20], [21, 20], [20], [22, 23, 20], [24, 20], [25, 20], [26, 20, 20], [27, 20], [20, 28]] [.fa 48 1 4, .ld 49 1 false 48, .mv 50 5, .ia 51 2 49 50, .fa 52 0 51, .ld 53 1 false 52, .call (some 54) 74 [53], .not 55 54, .mv 56 55, .g 56 false (.ld 57 2 true 4), .g 56 false (.fa 58 1 4), .g 56 false (.ld 59 1 false 58), .g 56 false (.mv 60 5), .g 56 false (.ia 61 2 59 60), .g 56 false (.fa 62 0 61), .g 56 false (.ld 63 1 false 62), .g 56 false (.call (some 64) 77 [57, 63]), .g 56 false (.mv 65 5), .g 56 false (.bin 66 .neq 64 65), .pick 67 56 (kB true) 66, .mv 68 67, .g 68 false (.fa 69 1 4), .g 68 false (.ld 70 1 false 69), .g 68 false (.mv 71 5), .g 68 false (.ia 72 2 70 71), .g 68 false (.fa 73 1 72), .g 68 false (.ld 74 1 false 73), .g 68 false (.call (some 75) 76 [74, (kI 1), (kI 3)]), .g 68 false (.not 76 75), .pick 77 68 (kB true) 76]) (.cond 77 (.seq (.ops [.asg 2 (kB false)]) .ret) .skip))) (.ops [.mv 46 5, .bin 47 .add 46 (kI 1), .asg 5 47]))))
def acsCatalogOk_L0 : AC := (.loop (.seq (.seq (.ops [.mv 10 3, .fa 11 0 1, .ld 12 1 false 11, .len 13 12, .bin 14 .lss 10 13]) (.cond 14 .skip (.exit 0))) (.seq (.block 1 (.seq (.ops [.fa 17 0 1, .ld 18 1 false 17, .mv 19 3, .ia 20 2 18 19, .ld 21 2 true 20, .alc 4 [(.d (.s (bs []))), (.nil 2)], .st 2 4 21]) (.seq (.seq (.ops [.fa 22 0 4, .ld 23 1 false 22, .call (some 24) 74 [23], .not 25 24, .mv 26 25, .g 26 false (.ld 27 1 true 1), .g 26 false (.fa 28 0 4), .g 26 false (.ld 29 1 false 28), .g 26 false (.call (some 30) 75 [27, 29]), .g 26 false (.mv 31 3), .g 26 false (.bin 32 .neq 30 31), .pick 33 26 (kB true) 32, .mv 34 33, .g 34 false (.fa 35 1 4), .g 34 false (.ld 36 1 false 35), .g 34 false (.len 37 36), .g 34 false (.call (some 38) 76 [37, (kI 1), (kI 4)]), .g 34 false (.not 39 38), .pick 40 34 (kB true) 39]) (.cond 40 (.seq (.ops [.asg 2 (kB false)]) .ret) .skip)) (.seq (.ops [.asg 5 (kI 0)]) (.block 2 acsCatalogOk_L1))))) (.ops [.mv 15 3, .bin 16 .add 15 (kI 1), .asg 3 16]))))
def acsCatalogOk : AC := (.seq (.ops [.box 1 44 0, .asg 2 (kB false)]) (.seq (.seq (.ops [.fa 6 0 1, .ld 7 1 false 6, .len 8 7, .bin 9 .gtr 8 (kI 4)]) (.cond 9 (.seq (.ops [.asg 2 (kB false)]) .ret) .skip)) (.seq (.seq (.ops [.asg 3 (kI 0)]) (.block 0 acsCatalogOk_L0)) (.seq (.ops [.asg 2 (kB true)]) .ret))))
theorem trsCatalogOk : trFn Tryz.prog 41 = some (acsCatalogOk, [.mv 0 2], 78) := by kernel_rfl
def qsCatalogOk (r : Bool) : Exit → St → Prop := retQ [.mv 0 2] fun x _ => x = (fun y => (vB y)) r
def qsCatalogOk_0 (r : Bool) : Exit → St → Prop := (thenK (wkK (avc Tryz.prog (.seq (.ops [.asg 2 (.c (.d (.b true)))]) .ret) (qsCatalogOk r))) (qsCatalogOk r))
def qsCatalogOk_1 (r : Bool) : Exit → St → Prop := (blockK 0 (qsCatalogOk_0 r))
def qsCatalogOk_2 (r : Bool) : Exit → St → Prop := (thenK (avc Tryz.prog acsCatalogOk_L0 (qsCatalogOk_1 r)) (qsCatalogOk_1 r))
def qsCatalogOk_3 (r : Bool) : Exit → St → Prop := (thenK (wkK (avc Tryz.prog (.ops [.mv 15 3, .bin 16 .add 15 (.c (.d (.i .i64 1))), .asg 3 16]) (qsCatalogOk_2 r))) (qsCatalogOk_2 r))
def qsCatalogOk_4 (r : Bool) : Exit → St → Prop := (blockK 1 (qsCatalogOk_3 r))
def qsCatalogOk_5 (r : Bool) : Exit → St → Prop := (blockK 2 (qsCatalogOk_4 r))
def stsCatalogOk_L0 (p0 : GCatalog) (x3 : Int) : St := ⟨[(1, (.ptr 1 0)), (3, (vI x3))], [(1, bGCatalog p0)]⟩
def stsCatalogOk_L1 (x3 : Int) (p0 : GCatalog) (y1 : GTable) (x5 : Int) : St := ⟨[(1, (.ptr 1 0)), (3, (vI x3)), (4, (.ptr 4 0)), (5, (vI x5))], [(1, bGCatalog p0), (4, bGTable y1)]⟩
def acsL1In : AC := (.seq (.ops [.asg 6 (kB false)]) (.seq (.ops [.mv 7 0, .mv 8 1, .bin 9 .geq 7 8, .mv 10 9, .g 10 true (.mv 11 0), .g 10 true (.mv 12 2), .g 10 true (.bin 13 .leq 11 12), .pick 14 10 13 (kB false), .asg 6 14]) .ret))
theorem trsL1In : trFn Tryz.prog 76 = some (acsL1In, [.mv 0 6], 15) := by kernel_rfl
def qsL1In (r : Bool) : Exit → St → Prop := retQ [.mv 0 6] fun x _ => x = (fun y => (vB y)) r
def acsTableAt_L0 : AC := (.loop (.seq (.seq (.ops [.mv 6 5, .fa 7 0 2, .ld 8 1 false 7, .len 9 8, .bin 10 .lss 6 9]) (.cond 10 .skip (.exit 0))) (.seq (.block 1 (.seq (.ops [.fa 13 0 2, .ld 14 1 false 13, .mv 15 5, .ia 16 2 14 15, .fa 17 0 16, .ld 18 1 false 17, .mv 19 1, .bin 20 .eql 18 19]) (.cond 20 (.seq (.ops [.mv 21 5, .asg 4 21]) .ret) .skip))) (.ops [.mv 11 5, .bin 12 .add 11 (kI 1), .asg 5 12]))))
def acsTableAt : AC := (.seq (.ops [.box 2 44 0, .asg 4 (kI 0)]) (.seq (.seq (.ops [.asg 5 (kI 0)]) (.block 0 acsTableAt_L0)) (.seq (.ops [.asg 4 (kI (-1))]) .ret)))
theorem trsTableAt : trFn Tryz.prog 75 = some (acsTableAt, [.mv 0 4], 22) := by kernel_rfl
def qsTableAt (r : Int) : Exit → St → Prop := retQ [.mv 0 4] fun x _ => x = (fun y => (vI y)) r
def qsTableAt_0 (r : Int) : Exit → St → Prop := (thenK (wkK (avc Tryz.prog (.seq (.ops [.asg 4 (.c (.d (.i .i64 (-1))))]) .ret) (qsTableAt r))) (qsTableAt r))
def qsTableAt_1 (r : Int) : Exit → St → Prop := (blockK 0 (qsTableAt_0 r))
def stsTableAt_L0 (p1 : (List UInt8)) (p0 : GCatalog) (x5 : Int) : St := ⟨[(1, (vS p1)), (2, (.ptr 2 0)), (5, (vI x5))], [(2, bGCatalog p0)]⟩
def acsColAt_L0 : AC := (.loop (.seq (.seq (.ops [.mv 6 5, .fa 7 1 2, .ld 8 1 false 7, .len 9 8, .bin 10 .lss 6 9]) (.cond 10 .skip (.exit 0))) (.seq (.block 1 (.seq (.ops [.fa 13 1 2, .ld 14 1 false 13, .mv 15 5, .ia 16 2 14 15, .fa 17 0 16, .ld 18 1 false 17, .mv 19 1, .bin 20 .eql 18 19]) (.cond 20 (.seq (.ops [.mv 21 5, .asg 4 21]) .ret) .skip))) (.ops [.mv 11 5, .bin 12 .add 11 (kI 1), .asg 5 12]))))
def acsColAt : AC := (.seq (.ops [.box 2 106 0, .asg 4 (kI 0)]) (.seq (.seq (.ops [.asg 5 (kI 0)]) (.block 0 acsColAt_L0)) (.seq (.ops [.asg 4 (kI (-1))]) .ret)))
theorem trsColAt : trFn Tryz.prog 77 = some (acsColAt, [.mv 0 4], 22) := by kernel_rfl
def qsColAt (r : Int) : Exit → St → Prop := retQ [.mv 0 4] fun x _ => x = (fun y => (vI y)) r
def qsColAt_0 (r : Int) : Exit → St → Prop := (thenK (wkK (avc Tryz.prog (.seq (.ops [.asg 4 (.c (.d (.i .i64 (-1))))]) .ret) (qsColAt r))) (qsColAt r))
def qsColAt_1 (r : Int) : Exit → St → Prop := (blockK 0 (qsColAt_0 r))
def stsColAt_L0 (p1 : (List UInt8)) (p0 : GTable) (x5 : Int) : St := ⟨[(1, (vS p1)), (2, (.ptr 2 0)), (5, (vI x5))], [(2, bGTable p0)]⟩
def acsNameOk : AC := (.seq (.ops [.asg 2 (kB false)]) (.seq (.ops [.mv 3 0, .lns 4 3, .call (some 5) 76 [4, (kI 1), (kI 20)], .asg 2 5]) .ret))
theorem trsNameOk : trFn Tryz.prog 74 = some (acsNameOk, [.mv 0 2], 6) := by kernel_rfl
def qsNameOk (r : Bool) : Exit → St → Prop := retQ [.mv 0 2] fun x _ => x = (fun y => (vB y)) r
def acsSpaced : AC := (.seq (.ops [.asg 2 (.c (.d (.s (bs []))))]) (.seq (.ops [.mv 3 0, .call (some 4) 29 [3, (kB false)], .asg 2 4]) .ret))
theorem trsSpaced : trFn Tryz.prog 14 = some (acsSpaced, [.mv 0 2], 5) := by kernel_rfl
def qsSpaced (r : (List UInt8)) : Exit → St → Prop := retQ [.mv 0 2] fun x _ => x = (fun y => (vS y)) r
def acsL4Join_J1 : AC := (.ops [.mv 40 5, .mv 41 0, .mv 42 6, .ia 43 3 41 42, .ld 44 3 true 43, .call (some 45) 50 [44], .app 46 5 1 1 40 45, .asg 5 46])
def acsL4Join_L0 : AC := (.loop (.seq (.seq (.ops [.mv 8 6, .mv 9 0, .len 10 9, .bin 11 .lss 8 10]) (.cond 11 .skip (.exit 0))) (.seq (.block 1 (.seq (.seq (.ops [.mv 14 0, .mv 15 6, .ia 16 3 14 15, .ld 17 3 true 16, .call (some 18) 48 [17], .not 19 18]) (.cond 19 (.seq (.ops [.asg 4 (.c (.d (.s (bs []))))]) .ret) .skip)) (.seq (.seq (.dops [[], [0], [1], [2], [3, 2, 2], [4], [4], [6, 4], [5, 7, 4], [8, 4], [4], [4], [10, 11, 4], [12, 4], [9, 13, 4, 4], [4, 14, 2], [2, 15]] [.mv 20 6, .bin 21 .gtr 20 (kI 0), .mv 22 21, .g 22 true (.mv 23 1), .g 22 true (.mv 24 23), .g 24 false (.mv 25 0), .g 24 false (.mv 26 6), .g 24 false (.bin 27 .sub 26 (kI 1)), .g 24 false (.ia 28 3 25 27), .g 24 false (.ld 29 3 true 28), .g 24 false (.mv 30 0), .g 24 false (.mv 31 6), .g 24 false (.ia 32 3 30 31), .g 24 false (.ld 33 3 true 32), .g 24 false (.call (some 34) 49 [29, 33]), .g 22 true (.pick 35 24 (kB true) 34), .pick 36 22 35 (kB false)]) (.cond 36 (.ops [.mv 37 5, .bsl 38 5 1 [(.c (.d (.i .u8 32)))], .app 39 5 1 1 37 38, .asg 5 39]) .skip)) acsL4Join_J1))) (.ops [.mv 12 6, .bin 13 .add 12 (kI 1), .asg 6 13]))))
def acsL4Join : AC := (.seq (.ops [.asg 4 (.c (.d (.s (bs []))))]) (.seq (.ops [.bsl 7 5 1 [], .asg 5 7]) (.seq (.seq (.ops [.asg 6 (kI 0)]) (.block 0 acsL4Join_L0)) (.seq (.seq (.ops [.mv 47 5, .len 48 47, .bin 49 .gtr 48 (kI 2000)]) (.cond 49 (.seq (.ops [.asg 4 (.c (.d (.s (bs []))))]) .ret) .skip)) (.seq (.ops [.mv 50 5, .cbs 51 50, .asg 4 51]) .ret)))))
theorem trsL4Join : trFn Tryz.prog 29 = some (acsL4Join, [.mv 0 4], 52) := by kernel_rfl
def qsL4Join (r : (List UInt8)) : Exit → St → Prop := retQ [.mv 0 4] fun x _ => x = (fun y => (vS y)) r
def qsL4Join_0 (r : (List UInt8)) : Exit → St → Prop := (thenK (wkK (avc Tryz.prog (.seq (.seq (.ops [.mv 47 5, .len 48 47, .bin 49 .gtr 48 (.c (.d (.i .i64 2000)))]) (.cond 49 (.seq (.ops [.asg 4 (.c (.d (.s (bs []))))]) .ret) .skip)) (.seq (.ops [.mv 50 5, .cbs 51 50, .asg 4 51]) .ret)) (qsL4Join r))) (qsL4Join r))
def qsL4Join_1 (r : (List UInt8)) : Exit → St → Prop := (blockK 0 (qsL4Join_0 r))
def qsL4Join_2 (r : (List UInt8)) : Exit → St → Prop := (thenK (avc Tryz.prog acsL4Join_L0 (qsL4Join_1 r)) (qsL4Join_1 r))
def qsL4Join_3 (r : (List UInt8)) : Exit → St → Prop := (thenK (wkK (avc Tryz.prog (.ops [.mv 12 6, .bin 13 .add 12 (.c (.d (.i .i64 1))), .asg 6 13]) (qsL4Join_2 r))) (qsL4Join_2 r))
def qsL4Join_4 (r : (List UInt8)) : Exit → St → Prop := (blockK 1 (qsL4Join_3 r))
def stsL4Join_L0 (p0 : (List GToken)) (p1 : Bool) (x5 : (List Int)) (x6 : Int) : St := ⟨[(0, (.d (.sl 3 (p0.map cGToken)))), (1, (vB p1)), (5, (.osl 5 5 1 (x5.map cU8))), (6, (vI x6))], []⟩
def stsL4Join_J1 (p0 : (List GToken)) (p1 : Bool) (x6 : Int) (x5_9 : (List Int)) : St := ⟨[(0, (.d (.sl 3 (p0.map cGToken)))), (1, (vB p1)), (5, (.osl 5 5 1 (x5_9.map cU8))), (6, (vI x6))], []⟩
def acsNeedsGap : AC := (.seq (.ops [.box 2 53 0, .box 3 53 1, .asg 4 (kB false)]) (.seq (.seq (.ops [.ld 5 3 true 2, .call (some 6) 48 [5], .not 7 6, .mv 8 7, .g 8 false (.ld 9 3 true 3), .g 8 false (.call (some 10) 48 [9]), .g 8 false (.not 11 10), .pick 12 8 (kB true) 11]) (.cond 12 (.seq (.ops [.asg 4 (kB false)]) .ret) .skip)) (.seq (.seq (.ops [.ld 13 3 true 2, .call (some 14) 96 [13], .mv 15 14, .g 15 true (.ld 16 3 true 3), .g 15 true (.call (some 17) 96 [16]), .pick 18 15 17 (kB false), .mv 19 18, .g 19 false (.fa 20 0 2), .g 19 false (.ld 21 1 false 20), .g 19 false (.bin 22 .eql 21 (kI 4)), .g 19 false (.mv 23 22), .g 23 true (.fa 24 0 3), .g 23 true (.ld 25 1 false 24), .g 23 true (.bin 26 .eql 25 (kI 4)), .g 19 false (.pick 27 23 26 (kB false)), .pick 28 19 (kB true) 27, .mv 29 28, .g 29 false (.ld 30 3 true 2), .g 29 false (.call (some 31) 97 [30]), .g 29 false (.mv 32 31), .g 32 true (.ld 33 3 true 3), .g 32 true (.call (some 34) 97 [33]), .g 29 false (.pick 35 32 34 (kB false)), .pick 36 29 (kB true) 35]) (.cond 36 (.seq (.ops [.asg 4 (kB true)]) .ret) .skip)) (.seq (.seq (.ops [.fa 37 0 2, .ld 38 1 false 37, .bin 39 .neq 38 (kI 5), .mv 40 39, .g 40 false (.fa 41 0 3), .g 40 false (.ld 42 1 false 41), .g 40 false (.bin 43 .neq 42 (kI 5)), .pick 44 40 (kB true) 43]) (.cond 44 (.seq (.ops [.asg 4 (kB false)]) .ret) .skip)) (.seq (.seq (.ops [.fa 45 1 2, .ld 46 1 false 45]) (.block 0 (.seq (.ops [.bin 48 .eql 46 (.c (.d (.s (bs [45])))), .asg 47 48]) (.cond 47 (.seq (.ops [.fa 49 1 3, .ld 50 1 false 49, .bin 51 .eql 50 (.c (.d (.s (bs [45])))), .asg 4 51]) .ret) (.seq (.ops [.bin 53 .eql 46 (.c (.d (.s (bs [47])))), .asg 52 53]) (.cond 52 (.seq (.ops [.fa 54 1 3, .ld 55 1 false 54, .bin 56 .eql 55 (.c (.d (.s (bs [42])))), .asg 4 56]) .ret) (.seq (.ops [.bin 58 .eql 46 (.c (.d (.s (bs [60])))), .asg 57 58]) (.cond 57 (.seq (.ops [.fa 59 1 3, .ld 60 1 false 59, .ix 61 60 (kI 0), .bin 62 .eql 61 (.c (.d (.i .u8 61))), .mv 63 62, .g 63 false (.fa 64 1 3), .g 63 false (.ld 65 1 false 64), .g 63 false (.ix 66 65 (kI 0)), .g 63 false (.bin 67 .eql 66 (.c (.d (.i .u8 62)))), .pick 68 63 (kB true) 67, .asg 4 68]) .ret) (.seq (.ops [.bin 70 .eql 46 (.c (.d (.s (bs [62])))), .asg 69 70]) (.cond 69 (.seq (.ops [.fa 71 1 3, .ld 72 1 false 71, .ix 73 72 (kI 0), .bin 74 .eql 73 (.c (.d (.i .u8 61))), .asg 4 74]) .ret) .skip)))))))))) (.seq (.ops [.asg 4 (kB false)]) .ret))))))
theorem trsNeedsGap : trFn Tryz.prog 49 = some (acsNeedsGap, [.mv 0 4], 75) := by kernel_rfl
def qsNeedsGap (r : Bool) : Exit → St → Prop := retQ [.mv 0 4] fun x _ => x = (fun y => (vB y)) r
def acsL4Quoted : AC := (.seq (.ops [.box 1 53 0, .asg 2 (kB false)]) (.seq (.ops [.fa 3 0 1, .ld 4 1 false 3, .bin 5 .eql 4 (kI 2), .mv 6 5, .g 6 true (.fa 7 1 1), .g 6 true (.ld 8 1 false 7), .g 6 true (.call (some 9) 132 [8]), .g 6 true (.not 10 9), .pick 11 6 10 (kB false), .asg 2 11]) .ret))
theorem trsL4Quoted : trFn Tryz.prog 97 = some (acsL4Quoted, [.mv 0 2], 12) := by kernel_rfl
def qsL4Quoted (r : Bool) : Exit → St → Prop := retQ [.mv 0 2] fun x _ => x = (fun y => (vB y)) r
def acsPlainName_L0 : AC := (.loop (.seq (.seq (.ops [.mv 17 3, .mv 18 0, .lns 19 18, .bin 20 .lss 17 19]) (.cond 20 .skip (.exit 0))) (.seq (.block 1 (.seq (.ops [.mv 23 0, .mv 24 3, .ix 25 23 24, .call (some 26) 116 [25], .not 27 26, .mv 28 27, .g 28 true (.mv 29 0), .g 28 true (.mv 30 3), .g 28 true (.ix 31 29 30), .g 28 true (.call (some 32) 118 [31]), .g 28 true (.not 33 32), .pick 34 28 33 (kB false)]) (.cond 34 (.seq (.ops [.asg 2 (kB false)]) .ret) .skip))) (.ops [.mv 21 3, .bin 22 .add 21 (kI 1), .asg 3 22]))))
def acsPlainName : AC := (.seq (.ops [.asg 2 (kB false)]) (.seq (.seq (.ops [.mv 4 0, .call (some 5) 74 [4], .not 6 5, .mv 7 6, .g 7 false (.mv 8 0), .g 7 false (.ix 9 8 (kI 0)), .g 7 false (.call (some 10) 118 [9]), .pick 11 7 (kB true) 10, .mv 12 11, .g 12 false (.mv 13 0), .g 12 false (.call (some 14) 93 [13]), .g 12 false (.bin 15 .gtr 14 (kI 0)), .pick 16 12 (kB true) 15]) (.cond 16 (.seq (.ops [.asg 2 (kB false)]) .ret) .skip)) (.seq (.seq (.ops [.asg 3 (kI 0)]) (.block 0 acsPlainName_L0)) (.seq (.ops [.asg 2 (kB true)]) .ret))))
theorem trsPlainName : trFn Tryz.prog 132 = some (acsPlainName, [.mv 0 2], 35) := by kernel_rfl
def qsPlainName (r : Bool) : Exit → St → Prop := retQ [.mv 0 2] fun x _ => x = (fun y => (vB y)) r
def qsPlainName_0 (r : Bool) : Exit → St → Prop := (thenK (wkK (avc Tryz.prog (.seq (.ops [.asg 2 (.c (.d (.b true)))]) .ret) (qsPlainName r))) (qsPlainName r))
def qsPlainName_1 (r : Bool) : Exit → St → Prop := (blockK 0 (qsPlainName_0 r))
def stsPlainName_L0 (p0 : (List UInt8)) (x3 : Int) : St := ⟨[(0, (vS p0)), (3, (vI x3))], []⟩
def acsL2Letter : AC := (.seq (.ops [.asg 2 (kB false)]) (.seq (.ops [.mv 3 0, .bin 4 .geq 3 (.c (.d (.i .u8 97))), .mv 5 4, .g 5 true (.mv 6 0), .g 5 true (.bin 7 .leq 6 (.c (.d (.i .u8 122)))), .pick 8 5 7 (kB false), .mv 9 8, .g 9 false (.mv 10 0), .g 9 false (.bin 11 .geq 10 (.c (.d (.i .u8 65)))), .g 9 false (.mv 12 11), .g 12 true (.mv 13 0), .g 12 true (.bin 14 .leq 13 (.c (.d (.i .u8 90)))), .g 9 false (.pick 15 12 14 (kB false)), .pick 16 9 (kB true) 15, .mv 17 16, .g 17 false (.mv 18 0), .g 17 false (.bin 19 .eql 18 (.c (.d (.i .u8 95)))), .pick 20 17 (kB true) 19, .asg 2 20]) .ret))
theorem trsL2Letter : trFn Tryz.prog 116 = some (acsL2Letter, [.mv 0 2], 21) := by kernel_rfl
def qsL2Letter (r : Bool) : Exit → St → Prop := retQ [.mv 0 2] fun x _ => x = (fun y => (vB y)) r
def acsKeyOf_L0 : AC := (.loop (.seq (.seq (.ops [.mv 12 5, .mv 13 4, .len 14 13, .bin 15 .lss 12 14]) (.cond 15 .skip (.exit 0))) (.seq (.block 1 (.seq (.ops [.mv 18 4, .mv 19 5, .ia 20 1 18 19, .ld 21 1 false 20, .mv 22 3, .bin 23 .eql 21 22]) (.cond 23 (.seq (.ops [.mv 24 5, .asg 2 24]) .ret) .skip))) (.ops [.mv 16 5, .bin 17 .add 16 (kI 1), .asg 5 17]))))
def acsKeyOf : AC := (.seq (.ops [.asg 2 (kI 0)]) (.seq (.seq (.ops [.mv 6 0, .lns 7 6, .bin 8 .gtr 7 (kI 8)]) (.cond 8 (.seq (.ops [.asg 2 (kI 0)]) .ret) .skip)) (.seq (.ops [.mv 9 0, .call (some 10) 92 [9], .asg 3 10]) (.seq (.ops [.call (some 11) 127 [], .asg 4 11]) (.seq (.seq (.ops [.asg 5 (kI 1)]) (.block 0 acsKeyOf_L0)) (.seq (.ops [.asg 2 (kI 0)]) .ret))))))
theorem trsKeyOf : trFn Tryz.prog 93 = some (acsKeyOf, [.mv 0 2], 25) := by kernel_rfl
def qsKeyOf (r : Int) : Exit → St → Prop := retQ [.mv 0 2] fun x _ => x = (fun y => (vI y)) r
def qsKeyOf_0 (r : Int) : Exit → St → Prop := (thenK (wkK (avc Tryz.prog (.seq (.ops [.asg 2 (.c (.d (.i .i64 0)))]) .ret) (qsKeyOf r))) (qsKeyOf r))
def qsKeyOf_1 (r : Int) : Exit → St → Prop := (blockK 0 (qsKeyOf_0 r))
def stsKeyOf_L0 (y1 : (List UInt8)) (y2 : (List (List UInt8))) (x5 : Int) : St := ⟨[(3, (vS y1)), (4, (.osl 4 9 1 (y2.map cStr))), (5, (vI x5))], []⟩
def acsFold_J1 : AC := (.ops [.mv 11 4, .bin 12 .add 11 (kI 1), .asg 4 12])
def acsFold_L0 : AC := (.loop (.seq (.seq (.ops [.mv 7 4, .mv 8 3, .len 9 8, .bin 10 .lss 7 9]) (.cond 10 .skip (.exit 0))) (.seq (.block 1 (.seq (.ops [.mv 13 3, .mv 14 4, .ia 15 1 13 14, .ld 16 1 false 15, .bin 17 .geq 16 (.c (.d (.i .u8 97))), .mv 18 17, .g 18 true (.mv 19 3), .g 18 true (.mv 20 4), .g 18 true (.ia 21 1 19 20), .g 18 true (.ld 22 1 false 21), .g 18 true (.bin 23 .leq 22 (.c (.d (.i .u8 122)))), .pick 24 18 23 (kB false)]) (.cond 24 (.ops [.mv 25 3, .mv 26 4, .mv 27 3, .mv 28 4, .ia 29 1 27 28, .ld 30 1 false 29, .bin 31 .sub 30 (.c (.d (.i .u8 32))), .ia 32 1 25 26, .st 1 32 31]) .skip))) acsFold_J1)))
def acsFold_J2 : AC := (.seq (.ops [.mv 33 3, .cbs 34 33, .asg 2 34]) .ret)
def acsFold : AC := (.seq (.ops [.asg 2 (.c (.d (.s (bs []))))]) (.seq (.ops [.mv 5 0, .csb 6 5 5, .asg 3 6]) (.seq (.seq (.ops [.asg 4 (kI 0)]) (.block 0 acsFold_L0)) acsFold_J2)))
theorem trsFold : trFn Tryz.prog 92 = some (acsFold, [.mv 0 2], 35) := by kernel_rfl
def qsFold (r : (List UInt8)) : Exit → St → Prop := retQ [.mv 0 2] fun x _ => x = (fun y => (vS y)) r
def qsFold_0 (r : (List UInt8)) : Exit → St → Prop := (thenK (wkK (avc Tryz.prog acsFold_J2 (qsFold r))) (qsFold r))
def qsFold_1 (r : (List UInt8)) : Exit → St → Prop := (blockK 0 (qsFold_0 r))
def qsFold_2 (r : (List UInt8)) : Exit → St → Prop := (thenK (avc Tryz.prog acsFold_L0 (qsFold_1 r)) (qsFold_1 r))
def stsFold_L0 (x4 : Int) (b60013000_0 : (List Int)) : St := ⟨[(3, (.tre 60013000)), (4, (vI x4))], [(60013000, [(.trc 1 (b60013000_0.map cU8))])]⟩
def stsFold_J1 (x4 : Int) (b60052000_0 : (List Int)) : St := ⟨[(3, (.tre 60052000)), (4, (vI x4))], [(60052000, [(.trc 1 (b60052000_0.map cU8))])]⟩
def stsFold_J2 (x3 : (List Int)) : St := ⟨[(3, (.d (.sl 1 (x3.map cU8))))], []⟩
def acsL2Words : AC := (.seq (.ops [.asg 0 (.c (.nil 1))]) (.seq (.ops [.bsl 1 9 1 [(.c (.d (.s (bs [])))), (.c (.d (.s (bs [83, 69, 76, 69, 67, 84])))), (.c (.d (.s (bs [68, 73, 83, 84, 73, 78, 67, 84])))), (.c (.d (.s (bs [70, 82, 79, 77])))), (.c (.d (.s (bs [74, 79, 73, 78])))), (.c (.d (.s (bs [79, 78])))), (.c (.d (.s (bs [87, 72, 69, 82, 69])))), (.c (.d (.s (bs [79, 82, 68, 69, 82])))), (.c (.d (.s (bs [66, 89])))), (.c (.d (.s (bs [65, 83, 67])))), (.c (.d (.s (bs [68, 69, 83, 67])))), (.c (.d (.s (bs [76, 73, 77, 73, 84])))), (.c (.d (.s (bs [65, 83])))), (.c (.d (.s (bs [65, 78, 68])))), (.c (.d (.s (bs [79, 82])))), (.c (.d (.s (bs [78, 79, 84])))), (.c (.d (.s (bs [73, 83])))), (.c (.d (.s (bs [73, 78])))), (.c (.d (.s (bs [66, 69, 84, 87, 69, 69, 78])))), (.c (.d (.s (bs [69, 88, 73, 83, 84, 83])))), (.c (.d (.s (bs [78, 85, 76, 76])))), (.c (.d (.s (bs [84, 82, 85, 69])))), (.c (.d (.s (bs [70, 65, 76, 83, 69])))), (.c (.d (.s (bs [73, 78, 83, 69, 82, 84])))), (.c (.d (.s (bs [73, 78, 84, 79])))), (.c (.d (.s (bs [86, 65, 76, 85, 69, 83])))), (.c (.d (.s (bs [85, 80, 68, 65, 84, 69])))), (.c (.d (.s (bs [83, 69, 84])))), (.c (.d (.s (bs [68, 69, 76, 69, 84, 69]))))], .asg 0 1]) .ret))
theorem trsL2Words : trFn Tryz.prog 127 = some (acsL2Words, [.mv 0 0], 2) := by kernel_rfl
def qsL2Words (r : (List (List UInt8))) : Exit → St → Prop := retQ [.mv 0 0] fun x b => x = (fun (y : (List (List UInt8))) => (.osl 2000000 9 1 (y.map cStr))) r ∧ bxHas ((fun (y : (List (List UInt8))) => []) r) b
def acsL2Figure : AC := (.seq (.ops [.asg 2 (kB false)]) (.seq (.ops [.mv 3 0, .bin 4 .geq 3 (.c (.d (.i .u8 48))), .mv 5 4, .g 5 true (.mv 6 0), .g 5 true (.bin 7 .leq 6 (.c (.d (.i .u8 57)))), .pick 8 5 7 (kB false), .asg 2 8]) .ret))
theorem trsL2Figure : trFn Tryz.prog 118 = some (acsL2Figure, [.mv 0 2], 9) := by kernel_rfl
def qsL2Figure (r : Bool) : Exit → St → Prop := retQ [.mv 0 2] fun x _ => x = (fun y => (vB y)) r
def acsTokenOk : AC := (.seq (.ops [.box 1 53 0, .asg 2 (kB false)]) (.seq (.seq (.ops [.fa 5 0 1, .ld 6 1 false 5]) (.block 0 (.seq (.ops [.bin 8 .eql 6 (kI 1), .asg 7 8]) (.cond 7 (.seq (.dops [[], [0], [1], [2], [3, 2], [4], [5, 4], [6, 4, 4], [4], [8, 4], [7, 9, 4], [4, 10], [11, 7, 0, 1, 2, 3, 4, 5, 6, 7, 8, 9, 10, 11]] [.fa 9 1 1, .ld 10 1 false 9, .call (some 11) 93 [10], .bin 12 .gtr 11 (kI 0), .mv 13 12, .g 13 true (.fa 14 1 1), .g 13 true (.ld 15 1 false 14), .g 13 true (.call (some 16) 92 [15]), .g 13 true (.fa 17 1 1), .g 13 true (.ld 18 1 false 17), .g 13 true (.bin 19 .eql 16 18), .pick 20 13 19 (kB false), .asg 2 20]) .ret) (.seq (.ops [.bin 22 .eql 6 (kI 2), .asg 21 22]) (.cond 21 (.seq (.ops [.fa 23 1 1, .ld 24 1 false 23, .call (some 25) 74 [24], .asg 2 25]) .ret) (.seq (.ops [.bin 27 .eql 6 (kI 3), .asg 26 27]) (.cond 26 (.seq (.ops [.fa 29 1 1, .ld 30 1 false 29, .call (some 31) 94 [30], .mv 28 31, .ext 32 28 0, .ext 33 28 1, .asg 3 32, .asg 4 33]) (.seq (.ops [.mv 34 4, .asg 2 34]) .ret)) (.seq (.ops [.bin 36 .eql 6 (kI 4), .asg 35 36]) (.cond 35 (.seq (.ops [.fa 37 1 1, .ld 38 1 false 37, .lns 39 38, .bin 40 .leq 39 (kI 40), .asg 2 40]) .ret) (.seq (.ops [.bin 42 .eql 6 (kI 5), .asg 41 42]) (.cond 41 (.seq (.ops [.fa 43 1 1, .ld 44 1 false 43, .call (some 45) 95 [44], .asg 2 45]) .ret) .skip)))))))))))) (.seq (.ops [.asg 2 (kB false)]) .ret)))
theorem trsTokenOk : trFn Tryz.prog 48 = some (acsTokenOk, [.mv 0 2], 46) := by kernel_rfl
def qsTokenOk (r : Bool) : Exit → St → Prop := retQ [.mv 0 2] fun x _ => x = (fun y => (vB y)) r
def acsSignOk_J0 : AC := (.cond 4 (.seq (.ops [.asg 2 (kB true)]) .ret) .skip)
def acsSignOk : AC := (.seq (.ops [.asg 2 (kB false)]) (.seq (.seq (.ops [.mv 3 0]) (.block 0 (.seq (.seq (.ops [.bin 5 .eql 3 (.c (.d (.s (bs [40])))), .asg 4 5]) (.cond 4 .skip (.seq (.ops [.bin 6 .eql 3 (.c (.d (.s (bs [41])))), .asg 4 6]) (.cond 4 .skip (.seq (.ops [.bin 7 .eql 3 (.c (.d (.s (bs [44])))), .asg 4 7]) (.cond 4 .skip (.seq (.ops [.bin 8 .eql 3 (.c (.d (.s (bs [46])))), .asg 4 8]) (.cond 4 .skip (.seq (.ops [.bin 9 .eql 3 (.c (.d (.s (bs [42])))), .asg 4 9]) (.cond 4 .skip (.seq (.ops [.bin 10 .eql 3 (.c (.d (.s (bs [43])))), .asg 4 10]) (.cond 4 .skip (.seq (.ops [.bin 11 .eql 3 (.c (.d (.s (bs [45])))), .asg 4 11]) (.cond 4 .skip (.seq (.ops [.bin 12 .eql 3 (.c (.d (.s (bs [47])))), .asg 4 12]) (.cond 4 .skip (.seq (.ops [.bin 13 .eql 3 (.c (.d (.s (bs [37])))), .asg 4 13]) (.cond 4 .skip (.seq (.ops [.bin 14 .eql 3 (.c (.d (.s (bs [61])))), .asg 4 14]) (.cond 4 .skip (.seq (.ops [.bin 15 .eql 3 (.c (.d (.s (bs [60, 62])))), .asg 4 15]) (.cond 4 .skip (.seq (.ops [.bin 16 .eql 3 (.c (.d (.s (bs [60])))), .asg 4 16]) (.cond 4 .skip (.seq (.ops [.bin 17 .eql 3 (.c (.d (.s (bs [60, 61])))), .asg 4 17]) (.cond 4 .skip (.seq (.ops [.bin 18 .eql 3 (.c (.d (.s (bs [62])))), .asg 4 18]) (.cond 4 .skip (.seq (.ops [.bin 19 .eql 3 (.c (.d (.s (bs [62, 61])))), .asg 4 19]) (.cond 4 .skip (.ops [.bin 20 .eql 3 (.c (.d (.s (bs [124, 124])))), .asg 4 20]))))))))))))))))))))))))))))))) acsSignOk_J0))) (.seq (.ops [.asg 2 (kB false)]) .ret)))
theorem trsSignOk : trFn Tryz.prog 95 = some (acsSignOk, [.mv 0 2], 21) := by kernel_rfl
def qsSignOk (r : Bool) : Exit → St → Prop := retQ [.mv 0 2] fun x _ => x = (fun y => (vB y)) r
def qsSignOk_0 (r : Bool) : Exit → St → Prop := (thenK (wkK (avc Tryz.prog (.seq (.ops [.asg 2 (.c (.d (.b false)))]) .ret) (qsSignOk r))) (qsSignOk r))
def qsSignOk_1 (r : Bool) : Exit → St → Prop := (blockK 0 (qsSignOk_0 r))
def stsSignOk_J0 (x4 : Bool) : St := ⟨[(4, (vB x4))], []⟩
def acsNumber_L0 : AC := (.loop (.seq (.seq (.ops [.mv 15 5, .mv 16 0, .lns 17 16, .bin 18 .lss 15 17]) (.cond 18 .skip (.exit 0))) (.seq (.block 1 (.seq (.seq (.ops [.mv 21 0, .mv 22 5, .ix 23 21 22, .bin 24 .lss 23 (.c (.d (.i .u8 48))), .mv 25 24, .g 25 false (.mv 26 0), .g 25 false (.mv 27 5), .g 25 false (.ix 28 26 27), .g 25 false (.bin 29 .gtr 28 (.c (.d (.i .u8 57)))), .pick 30 25 (kB true) 29]) (.cond 30 (.seq (.ops [.asg 2 (kI 0), .asg 3 (kB false)]) .ret) .skip)) (.seq (.ops [.mv 31 0, .mv 32 5, .ix 33 31 32, .cvi 34 .i64 33, .bin 35 .sub 34 (kI 48), .asg 6 35]) (.seq (.seq (.ops [.mv 36 4, .mv 37 6, .bin 38 .sub (kI 9223372036854775807) 37, .bin 39 .quo 38 (kI 10), .bin 40 .gtr 36 39]) (.cond 40 (.seq (.ops [.asg 2 (kI 0), .asg 3 (kB false)]) .ret) .skip)) (.ops [.mv 41 4, .bin 42 .mul (kI 10) 41, .mv 43 6, .bin 44 .add 42 43, .asg 4 44]))))) (.ops [.mv 19 5, .bin 20 .add 19 (kI 1), .asg 5 20]))))
def acsNumber : AC := (.seq (.ops [.asg 2 (kI 0), .asg 3 (kB false)]) (.seq (.seq (.ops [.mv 7 0, .lns 8 7, .bin 9 .lss 8 (kI 1), .mv 10 9, .g 10 false (.mv 11 0), .g 10 false (.lns 12 11), .g 10 false (.bin 13 .gtr 12 (kI 19)), .pick 14 10 (kB true) 13]) (.cond 14 (.seq (.ops [.asg 2 (kI 0), .asg 3 (kB false)]) .ret) .skip)) (.seq (.ops [.asg 4 (kI 0)]) (.seq (.seq (.ops [.asg 5 (kI 0)]) (.block 0 acsNumber_L0)) (.seq (.seq (.ops [.mv 45 4, .call (some 46) 129 [45], .mv 47 0, .bin 48 .neq 46 47]) (.cond 48 (.seq (.ops [.asg 2 (kI 0), .asg 3 (kB false)]) .ret) .skip)) (.seq (.ops [.mv 49 4, .asg 2 49, .asg 3 (kB true)]) .ret))))))
theorem trsNumber : trFn Tryz.prog 94 = some (acsNumber, [.mv 0 2, .mv 0 3], 50) := by kernel_rfl
def qsNumber (r : Int × Bool) : Exit → St → Prop := retQ [.mv 0 2, .mv 0 3] fun x _ => x = (fun y => (.tup [(vI y.1), (vB y.2)])) r
def qsNumber_0 (r : Int × Bool) : Exit → St → Prop := (thenK (wkK (avc Tryz.prog (.seq (.seq (.ops [.mv 45 4, .call (some 46) 129 [45], .mv 47 0, .bin 48 .neq 46 47]) (.cond 48 (.seq (.ops [.asg 2 (.c (.d (.i .i64 0))), .asg 3 (.c (.d (.b false)))]) .ret) .skip)) (.seq (.ops [.mv 49 4, .asg 2 49, .asg 3 (.c (.d (.b true)))]) .ret)) (qsNumber r))) (qsNumber r))
def qsNumber_1 (r : Int × Bool) : Exit → St → Prop := (blockK 0 (qsNumber_0 r))
def stsNumber_L0 (p0 : (List UInt8)) (x4 : Int) (x5 : Int) : St := ⟨[(0, (vS p0)), (4, (vI x4)), (5, (vI x5))], []⟩
def acsDigits_J1 : AC := (.seq (.ops [.mv 18 5, .bin 19 .add (kI 48) 18, .cvi 20 .u8 19, .bsl 21 5 1 [20], .cbs 22 21, .mv 23 4, .bin 24 .add 22 23, .asg 4 24]) (.ops [.mv 25 0, .bin 26 .quo 25 (kI 10), .asg 0 26]))
def acsDigits_L0 : AC := (.loop (.seq (.seq (.ops [.mv 10 0, .bin 11 .neq 10 (kI 0)]) (.cond 11 .skip (.exit 0))) (.block 1 (.seq (.ops [.mv 12 0, .bin 13 .rem 12 (kI 10), .asg 5 13]) (.seq (.seq (.ops [.mv 14 5, .bin 15 .lss 14 (kI 0)]) (.cond 15 (.ops [.mv 16 5, .bin 17 .sub (kI 0) 16, .asg 5 17]) .skip)) acsDigits_J1)))))
def acsDigits : AC := (.seq (.ops [.asg 2 (.c (.d (.s (bs []))))]) (.seq (.seq (.ops [.mv 6 0, .bin 7 .eql 6 (kI 0)]) (.cond 7 (.seq (.ops [.asg 2 (.c (.d (.s (bs [48]))))]) .ret) .skip)) (.seq (.ops [.mv 8 0, .bin 9 .lss 8 (kI 0), .asg 3 9]) (.seq (.ops [.asg 4 (.c (.d (.s (bs []))))]) (.seq (.block 0 acsDigits_L0) (.seq (.seq (.ops [.mv 27 3]) (.cond 27 (.seq (.ops [.mv 28 4, .bin 29 .add (.c (.d (.s (bs [45])))) 28, .asg 2 29]) .ret) .skip)) (.seq (.ops [.mv 30 4, .asg 2 30]) .ret)))))))
theorem trsDigits : trFn Tryz.prog 129 = some (acsDigits, [.mv 0 2], 31) := by kernel_rfl
def qsDigits (r : (List UInt8)) : Exit → St → Prop := retQ [.mv 0 2] fun x _ => x = (fun y => (vS y)) r
def qsDigits_0 (r : (List UInt8)) : Exit → St → Prop := (thenK (wkK (avc Tryz.prog (.seq (.seq (.ops [.mv 27 3]) (.cond 27 (.seq (.ops [.mv 28 4, .bin 29 .add (.c (.d (.s (bs [45])))) 28, .asg 2 29]) .ret) .skip)) (.seq (.ops [.mv 30 4, .asg 2 30]) .ret)) (qsDigits r))) (qsDigits r))
def qsDigits_1 (r : (List UInt8)) : Exit → St → Prop := (blockK 0 (qsDigits_0 r))
def qsDigits_2 (r : (List UInt8)) : Exit → St → Prop := (thenK (avc Tryz.prog acsDigits_L0 (qsDigits_1 r)) (qsDigits_1 r))
def qsDigits_3 (r : (List UInt8)) : Exit → St → Prop := (blockK 1 (qsDigits_2 r))
def stsDigits_L0 (p0 : Int) (x0 : Int) (x4 : (List UInt8)) : St := ⟨[(0, (vI x0)), (3, (vB (decide (p0 < 0)))), (4, (vS x4))], []⟩
def stsDigits_J1 (x0 : Int) (p0 : Int) (x4 : (List UInt8)) (x5 : Int) : St := ⟨[(0, (vI x0)), (3, (vB (decide (p0 < 0)))), (4, (vS x4)), (5, (vI x5))], []⟩
def acsL4Word : AC := (.seq (.ops [.box 1 53 0, .asg 2 (kB false)]) (.seq (.ops [.fa 3 0 1, .ld 4 1 false 3, .bin 5 .eql 4 (kI 1), .mv 6 5, .g 6 false (.fa 7 0 1), .g 6 false (.ld 8 1 false 7), .g 6 false (.bin 9 .eql 8 (kI 3)), .pick 10 6 (kB true) 9, .mv 11 10, .g 11 false (.fa 12 0 1), .g 11 false (.ld 13 1 false 12), .g 11 false (.bin 14 .eql 13 (kI 2)), .g 11 false (.mv 15 14), .g 15 true (.fa 16 1 1), .g 15 true (.ld 17 1 false 16), .g 15 true (.call (some 18) 132 [17]), .g 11 false (.pick 19 15 18 (kB false)), .pick 20 11 (kB true) 19, .asg 2 20]) .ret))
theorem trsL4Word : trFn Tryz.prog 96 = some (acsL4Word, [.mv 0 2], 21) := by kernel_rfl
def qsL4Word (r : Bool) : Exit → St → Prop := retQ [.mv 0 2] fun x _ => x = (fun y => (vB y)) r
def acsTokenText : AC := (.seq (.ops [.box 1 53 0, .asg 2 (.c (.d (.s (bs []))))]) (.seq (.seq (.ops [.ld 3 3 true 1, .call (some 4) 48 [3], .not 5 4]) (.cond 5 (.seq (.ops [.asg 2 (.c (.d (.s (bs []))))]) .ret) .skip)) (.seq (.seq (.ops [.fa 6 0 1, .ld 7 1 false 6]) (.block 0 (.seq (.ops [.bin 9 .eql 7 (kI 2), .asg 8 9]) (.cond 8 (.seq (.ops [.fa 10 1 1, .ld 11 1 false 10, .call (some 12) 98 [11], .asg 2 12]) .ret) (.seq (.ops [.bin 14 .eql 7 (kI 4), .asg 13 14]) (.cond 13 (.seq (.ops [.fa 15 1 1, .ld 16 1 false 15, .call (some 17) 99 [16], .asg 2 17]) .ret) .skip)))))) (.seq (.ops [.fa 18 1 1, .ld 19 1 false 18, .asg 2 19]) .ret))))
theorem trsTokenText : trFn Tryz.prog 50 = some (acsTokenText, [.mv 0 2], 20) := by kernel_rfl
def qsTokenText (r : (List UInt8)) : Exit → St → Prop := retQ [.mv 0 2] fun x _ => x = (fun y => (vS y)) r
def acsNameText : AC := (.seq (.ops [.asg 2 (.c (.d (.s (bs []))))]) (.seq (.seq (.ops [.mv 3 0, .call (some 4) 74 [3], .not 5 4]) (.cond 5 (.seq (.ops [.asg 2 (.c (.d (.s (bs []))))]) .ret) .skip)) (.seq (.seq (.ops [.mv 6 0, .call (some 7) 132 [6]]) (.cond 7 (.seq (.ops [.mv 8 0, .asg 2 8]) .ret) .skip)) (.seq (.ops [.mv 9 0, .call (some 10) 133 [9, (.c (.d (.i .u8 34)))], .asg 2 10]) .ret))))
theorem trsNameText : trFn Tryz.prog 98 = some (acsNameText, [.mv 0 2], 11) := by kernel_rfl
def qsNameText (r : (List UInt8)) : Exit → St → Prop := retQ [.mv 0 2] fun x _ => x = (fun y => (vS y)) r
def acsL2Quote_J1 : AC := (.ops [.mv 24 5, .mv 25 0, .mv 26 6, .ix 27 25 26, .bsl 28 5 1 [27], .app 29 5 1 1 24 28, .asg 5 29])
def acsL2Quote_L0 : AC := (.loop (.seq (.seq (.ops [.mv 9 6, .mv 10 0, .lns 11 10, .bin 12 .lss 9 11]) (.cond 12 .skip (.exit 0))) (.seq (.block 1 (.seq (.seq (.ops [.mv 15 0, .mv 16 6, .ix 17 15 16, .mv 18 1, .bin 19 .eql 17 18]) (.cond 19 (.ops [.mv 20 5, .mv 21 1, .bsl 22 5 1 [21], .app 23 5 1 1 20 22, .asg 5 23]) .skip)) acsL2Quote_J1)) (.ops [.mv 13 6, .bin 14 .add 13 (kI 1), .asg 6 14]))))
def acsL2Quote : AC := (.seq (.ops [.asg 4 (.c (.d (.s (bs []))))]) (.seq (.ops [.mv 7 1, .bsl 8 5 1 [7], .asg 5 8]) (.seq (.seq (.ops [.asg 6 (kI 0)]) (.block 0 acsL2Quote_L0)) (.seq (.ops [.mv 30 5, .mv 31 1, .bsl 32 5 1 [31], .app 33 5 1 1 30 32, .cbs 34 33, .asg 4 34]) .ret))))
theorem trsL2Quote : trFn Tryz.prog 133 = some (acsL2Quote, [.mv 0 4], 35) := by kernel_rfl
def qsL2Quote (r : (List UInt8)) : Exit → St → Prop := retQ [.mv 0 4] fun x _ => x = (fun y => (vS y)) r
def qsL2Quote_0 (r : (List UInt8)) : Exit → St → Prop := (thenK (wkK (avc Tryz.prog (.seq (.ops [.mv 30 5, .mv 31 1, .bsl 32 5 1 [31], .app 33 5 1 1 30 32, .cbs 34 33, .asg 4 34]) .ret) (qsL2Quote r))) (qsL2Quote r))
def qsL2Quote_1 (r : (List UInt8)) : Exit → St → Prop := (blockK 0 (qsL2Quote_0 r))
def qsL2Quote_2 (r : (List UInt8)) : Exit → St → Prop := (thenK (avc Tryz.prog acsL2Quote_L0 (qsL2Quote_1 r)) (qsL2Quote_1 r))
def qsL2Quote_3 (r : (List UInt8)) : Exit → St → Prop := (thenK (wkK (avc Tryz.prog (.ops [.mv 13 6, .bin 14 .add 13 (.c (.d (.i .i64 1))), .asg 6 14]) (qsL2Quote_2 r))) (qsL2Quote_2 r))
def qsL2Quote_4 (r : (List UInt8)) : Exit → St → Prop := (blockK 1 (qsL2Quote_3 r))
def stsL2Quote_L0 (p0 : (List UInt8)) (p1 : Int) (x5 : (List Int)) (x6 : Int) : St := ⟨[(0, (vS p0)), (1, (.d (.i .u8 p1))), (5, (.osl 5 5 1 (x5.map cU8))), (6, (vI x6))], []⟩
def stsL2Quote_J1 (p0 : (List UInt8)) (p1 : Int) (x6 : Int) (x5_3 : (List Int)) : St := ⟨[(0, (vS p0)), (1, (.d (.i .u8 p1))), (5, (.osl 5 5 1 (x5_3.map cU8))), (6, (vI x6))], []⟩
def acsQuoteText : AC := (.seq (.ops [.asg 2 (.c (.d (.s (bs []))))]) (.seq (.ops [.mv 3 0, .call (some 4) 133 [3, (.c (.d (.i .u8 39)))], .asg 2 4]) .ret))
theorem trsQuoteText : trFn Tryz.prog 99 = some (acsQuoteText, [.mv 0 2], 5) := by kernel_rfl
def qsQuoteText (r : (List UInt8)) : Exit → St → Prop := retQ [.mv 0 2] fun x _ => x = (fun y => (vS y)) r
def acsL16Tokens_J3 : AC := (.dops [[], [], [1], [], [2, 3], [4], [5], [], [6, 7], [8], [9], [10], [], [12], [], [13, 14], [15], [16], [], [17, 18], [19], [20], [21, 11], [22, 22], [11, 23], [0, 24, 23], [25, 25, 0, 1, 2, 3, 4, 5, 6, 7, 8, 9, 10, 11, 12, 13, 14, 15, 16, 17, 18, 19, 20, 21, 22, 23, 24, 25]] [.mv 48 3, .fa 49 0 1, .ld 50 1 false 49, .mv 51 4, .ia 52 2 50 51, .fa 53 1 52, .ld 54 1 false 53, .mv 55 5, .ia 56 2 54 55, .fa 57 0 56, .ld 58 1 false 57, .call (some 59) 79 [58], .fa 60 0 1, .ld 61 1 false 60, .mv 62 4, .ia 63 2 61 62, .fa 64 1 63, .ld 65 1 false 64, .mv 66 5, .ia 67 2 65 66, .fa 68 1 67, .ld 69 1 false 68, .call (some 70) 80 [69], .call (some 71) 79 [70], .bsl 72 53 3 [59, 71], .app 73 53 3 32 48 72, .asg 3 73])
def acsL16Tokens_L2 : AC := (.loop (.seq (.seq (.ops [.mv 31 5, .fa 32 0 1, .ld 33 1 false 32, .mv 34 4, .ia 35 2 33 34, .fa 36 1 35, .ld 37 1 false 36, .len 38 37, .bin 39 .lss 31 38]) (.cond 39 .skip (.exit 2))) (.seq (.block 3 (.seq (.seq (.ops [.mv 42 5, .bin 43 .gtr 42 (kI 0)]) (.cond 43 (.ops [.mv 44 3, .call (some 45) 78 [(.c (.d (.s (bs [44]))))], .bsl 46 53 3 [45], .app 47 53 3 32 44 46, .asg 3 47]) .skip)) acsL16Tokens_J3)) (.ops [.mv 40 5, .bin 41 .add 40 (kI 1), .asg 5 41]))))
def acsL16Tokens_J1 : AC := (.seq (.ops [.mv 20 3, .fa 21 0 1, .ld 22 1 false 21, .mv 23 4, .ia 24 2 22 23, .fa 25 0 24, .ld 26 1 false 25, .call (some 27) 79 [26], .call (some 28) 78 [(.c (.d (.s (bs [40]))))], .bsl 29 53 3 [27, 28], .app 30 53 3 32 20 29, .asg 3 30]) (.seq (.seq (.ops [.asg 5 (kI 0)]) (.block 2 acsL16Tokens_L2)) (.ops [.mv 74 3, .call (some 75) 78 [(.c (.d (.s (bs [41]))))], .bsl 76 53 3 [75], .app 77 53 3 32 74 76, .asg 3 77])))
def acsL16Tokens_L0 : AC := (.loop (.seq (.seq (.ops [.mv 7 4, .fa 8 0 1, .ld 9 1 false 8, .len 10 9, .bin 11 .lss 7 10]) (.cond 11 .skip (.exit 0))) (.seq (.block 1 (.seq (.seq (.ops [.mv 14 4, .bin 15 .gtr 14 (kI 0)]) (.cond 15 (.ops [.mv 16 3, .call (some 17) 78 [(.c (.d (.s (bs [44]))))], .bsl 18 53 3 [17], .app 19 53 3 32 16 18, .asg 3 19]) .skip)) acsL16Tokens_J1)) (.ops [.mv 12 4, .bin 13 .add 12 (kI 1), .asg 4 13]))))
def acsL16Tokens : AC := (.seq (.ops [.box 1 44 0, .asg 2 (.c (.nil 3))]) (.seq (.ops [.bsl 6 53 3 [], .asg 3 6]) (.seq (.seq (.ops [.asg 4 (kI 0)]) (.block 0 acsL16Tokens_L0)) (.seq (.ops [.mv 78 3, .asg 2 78]) .ret))))
theorem trsL16Tokens : trFn Tryz.prog 42 = some (acsL16Tokens, [.mv 0 2], 79) := by kernel_rfl
def qsL16Tokens (r : (List GToken)) : Exit → St → Prop := retQ [.mv 0 2] fun x b => x = (fun (y : (List GToken)) => (.osl 2000000 53 3 (y.map cGToken))) r ∧ bxHas ((fun (y : (List GToken)) => []) r) b
def qsL16Tokens_0 (r : (List GToken)) : Exit → St → Prop := (thenK (wkK (avc Tryz.prog (.seq (.ops [.mv 78 3, .asg 2 78]) .ret) (qsL16Tokens r))) (qsL16Tokens r))
def qsL16Tokens_1 (r : (List GToken)) : Exit → St → Prop := (blockK 0 (qsL16Tokens_0 r))
def qsL16Tokens_2 (r : (List GToken)) : Exit → St → Prop := (thenK (avc Tryz.prog acsL16Tokens_L0 (qsL16Tokens_1 r)) (qsL16Tokens_1 r))
def qsL16Tokens_3 (r : (List GToken)) : Exit → St → Prop := (thenK (wkK (avc Tryz.prog (.ops [.mv 12 4, .bin 13 .add 12 (.c (.d (.i .i64 1))), .asg 4 13]) (qsL16Tokens_2 r))) (qsL16Tokens_2 r))
def qsL16Tokens_4 (r : (List GToken)) : Exit → St → Prop := (blockK 1 (qsL16Tokens_3 r))
def qsL16Tokens_5 (r : (List GToken)) : Exit → St → Prop := (thenK (wkK (avc Tryz.prog (.ops [.mv 74 3, .call (some 75) 78 [(.c (.d (.s (bs [41]))))], .bsl 76 53 3 [75], .app 77 53 3 32 74 76, .asg 3 77]) (qsL16Tokens_4 r))) (qsL16Tokens_4 r))
def qsL16Tokens_6 (r : (List GToken)) : Exit → St → Prop := (blockK 2 (qsL16Tokens_5 r))
def qsL16Tokens_7 (r : (List GToken)) : Exit → St → Prop := (thenK (avc Tryz.prog acsL16Tokens_L2 (qsL16Tokens_6 r)) (qsL16Tokens_6 r))
def qsL16Tokens_8 (r : (List GToken)) : Exit → St → Prop := (thenK (wkK (avc Tryz.prog (.ops [.mv 40 5, .bin 41 .add 40 (.c (.d (.i .i64 1))), .asg 5 41]) (qsL16Tokens_7 r))) (qsL16Tokens_7 r))
def qsL16Tokens_9 (r : (List GToken)) : Exit → St → Prop := (blockK 3 (qsL16Tokens_8 r))
def stsL16Tokens_L0 (p0 : GCatalog) (x3 : (List GToken)) (x4 : Int) : St := ⟨[(1, (.ptr 1 0)), (3, (.osl 3 53 3 (x3.map cGToken))), (4, (vI x4))], [(1, bGCatalog p0)]⟩
def stsL16Tokens_J1 (x4 : Int) (p0 : GCatalog) (x3_3 : (List GToken)) : St := ⟨[(1, (.ptr 1 0)), (3, (.osl 3 53 3 (x3_3.map cGToken))), (4, (vI x4))], [(1, bGCatalog p0)]⟩
def stsL16Tokens_L2 (x4 : Int) (p0 : GCatalog) (x3_8 : (List GToken)) (x5 : Int) : St := ⟨[(1, (.ptr 1 0)), (3, (.osl 3 53 3 (x3_8.map cGToken))), (4, (vI x4)), (5, (vI x5))], [(1, bGCatalog p0)]⟩
def stsL16Tokens_J3 (x4 : Int) (x5 : Int) (p0 : GCatalog) (x3_12 : (List GToken)) : St := ⟨[(1, (.ptr 1 0)), (3, (.osl 3 53 3 (x3_12.map cGToken))), (4, (vI x4)), (5, (vI x5))], [(1, bGCatalog p0)]⟩
def acsL10Name : AC := (.seq (.ops [.alc 2 [(.d (.i .i64 0)), (.d (.s (bs []))), (.d (.i .i64 0))]]) (.seq (.ops [.mv 3 0, .bld 4 [(.d (.i .i64 0)), (.d (.s (bs []))), (.d (.i .i64 0))] [(0, 1, (kI 2)), (1, 1, 3)], .st 3 2 4]) .ret))
theorem trsL10Name : trFn Tryz.prog 79 = some (acsL10Name, [.ld 0 3 true 2], 5) := by kernel_rfl
def qsL10Name (r : GToken) : Exit → St → Prop := retQ [.ld 0 3 true 2] fun x _ => x = (fun y => (vGToken y)) r
def acsL10Sign : AC := (.seq (.ops [.alc 2 [(.d (.i .i64 0)), (.d (.s (bs []))), (.d (.i .i64 0))]]) (.seq (.ops [.mv 3 0, .bld 4 [(.d (.i .i64 0)), (.d (.s (bs []))), (.d (.i .i64 0))] [(0, 1, (kI 5)), (1, 1, 3)], .st 3 2 4]) .ret))
theorem trsL10Sign : trFn Tryz.prog 78 = some (acsL10Sign, [.ld 0 3 true 2], 5) := by kernel_rfl
def qsL10Sign (r : GToken) : Exit → St → Prop := retQ [.ld 0 3 true 2] fun x _ => x = (fun y => (vGToken y)) r
def acsTypeText : AC := (.seq (.ops [.asg 2 (.c (.d (.s (bs []))))]) (.seq (.seq (.ops [.mv 3 0, .call (some 4) 76 [3, (kI 0), (kI 3)], .not 5 4]) (.cond 5 (.seq (.ops [.asg 2 (.c (.d (.s (bs []))))]) .ret) .skip)) (.seq (.ops [.bsl 6 9 1 [(.c (.d (.s (bs [65, 78, 89])))), (.c (.d (.s (bs [73, 78, 84])))), (.c (.d (.s (bs [84, 69, 88, 84])))), (.c (.d (.s (bs [66, 79, 79, 76]))))], .mv 7 0, .ia 8 1 6 7, .ld 9 1 false 8, .asg 2 9]) .ret)))
theorem trsTypeText : trFn Tryz.prog 80 = some (acsTypeText, [.mv 0 2], 10) := by kernel_rfl
def qsTypeText (r : (List UInt8)) : Exit → St → Prop := retQ [.mv 0 2] fun x _ => x = (fun y => (vS y)) r
def aciCatalogText : AC := (.seq (.ops [.box 1 44 0, .asg 2 (.c (.d (.s (bs []))))]) (.seq (.seq (.ops [.ld 3 1 true 1, .call (some 4) 44 [3], .not 5 4]) (.cond 5 (.seq (.ops [.asg 2 (.c (.d (.s (bs []))))]) .ret) .skip)) (.seq (.ops [.ld 6 1 true 1, .call (some 7) 45 [6], .call (some 8) 15 [7], .asg 2 8]) .ret)))
theorem triCatalogText : trFn Tryz.prog 25 = some (aciCatalogText, [.mv 0 2], 9) := by kernel_rfl
def qiCatalogText (r : (List UInt8)) : Exit → St → Prop := retQ [.mv 0 2] fun x _ => x = (fun y => (vS y)) r
def aciCatalogTokens_L1 : AC := (.loop (.seq (.ops [.bin 31 .lss 30 29]) (.seq (.cond 31 .skip (.exit 2)) (.seq (.block 3 (.seq (.ops [.mv 32 30, .ia 33 2 28 30, .ld 34 2 true 33, .alc 7 [(.d (.s (bs []))), (.d (.i .i64 0))], .asg 6 32, .st 2 7 34]) (.seq (.ops [.mv 35 3, .mv 36 6, .call (some 37) 84 [35, 36]]) (.seq (.ops [.mv 38 3, .fa 39 0 7, .ld 40 1 false 39, .call (some 41) 85 [38, 40]]) (.ops [.mv 42 3, .fa 43 1 7, .ld 44 1 false 43, .call (some 45) 87 [44], .call (some 46) 85 [42, 45]]))))) (.ops [.bin 47 .add 30 (kI 1), .mv 30 47])))))
def aciCatalogTokens_L0 : AC := (.loop (.seq (.ops [.bin 14 .lss 13 12]) (.seq (.cond 14 .skip (.exit 0)) (.seq (.block 1 (.seq (.ops [.mv 15 13, .ia 16 2 11 13, .ld 17 2 true 16, .alc 5 [(.d (.s (bs []))), (.nil 2)], .asg 4 15, .st 2 5 17]) (.seq (.ops [.mv 18 3, .mv 19 4, .call (some 20) 84 [18, 19]]) (.seq (.ops [.mv 21 3, .fa 22 0 5, .ld 23 1 false 22, .call (some 24) 85 [21, 23]]) (.seq (.ops [.mv 25 3, .call (some 26) 86 [25, (.c (.d (.s (bs [40]))))]]) (.seq (.seq (.ops [.fa 27 1 5, .ld 28 1 false 27, .len 29 28, .mv 30 (kI 0)]) (.block 2 aciCatalogTokens_L1)) (.ops [.mv 48 3, .call (some 49) 86 [48, (.c (.d (.s (bs [41]))))]]))))))) (.ops [.bin 50 .add 13 (kI 1), .mv 13 50])))))
def aciCatalogTokens : AC := (.seq (.ops [.box 1 44 0, .asg 2 (.c (.nil 3))]) (.seq (.ops [.bld 8 [(.nil 3), (.d (.b false))] [], .box 9 118 8, .asg 3 9]) (.seq (.seq (.ops [.fa 10 0 1, .ld 11 1 false 10, .len 12 11, .mv 13 (kI 0)]) (.block 0 aciCatalogTokens_L0)) (.seq (.ops [.mv 51 3, .nck 52 51, .fa 53 0 52, .ld 54 1 false 53, .asg 2 54]) .ret))))
theorem triCatalogTokens : trFn Tryz.prog 45 = some (aciCatalogTokens, [.mv 0 2], 55) := by kernel_rfl
def qiCatalogTokens (r : (List GToken)) : Exit → St → Prop := retQ [.mv 0 2] fun x b => x = (fun (y : (List GToken)) => (.osl 2000000 53 3 (y.map cGToken))) r ∧ bxHas ((fun (y : (List GToken)) => []) r) b
def qiCatalogTokens_0 (r : (List GToken)) : Exit → St → Prop := (thenK (wkK (avc Tryz.prog (.seq (.ops [.mv 51 3, .nck 52 51, .fa 53 0 52, .ld 54 1 false 53, .asg 2 54]) .ret) (qiCatalogTokens r))) (qiCatalogTokens r))
def qiCatalogTokens_1 (r : (List GToken)) : Exit → St → Prop := (blockK 0 (qiCatalogTokens_0 r))
def qiCatalogTokens_2 (r : (List GToken)) : Exit → St → Prop := (thenK (avc Tryz.prog aciCatalogTokens_L0 (qiCatalogTokens_1 r)) (qiCatalogTokens_1 r))
def qiCatalogTokens_3 (r : (List GToken)) : Exit → St → Prop := (thenK (wkK (avc Tryz.prog (.ops [.bin 50 .add 13 (.c (.d (.i .i64 1))), .mv 13 50]) (qiCatalogTokens_2 r))) (qiCatalogTokens_2 r))
def qiCatalogTokens_4 (r : (List GToken)) : Exit → St → Prop := (blockK 1 (qiCatalogTokens_3 r))
def qiCatalogTokens_5 (r : (List GToken)) : Exit → St → Prop := (thenK (wkK (avc Tryz.prog (.ops [.mv 48 3, .call (some 49) 86 [48, (.c (.d (.s (bs [41]))))]]) (qiCatalogTokens_4 r))) (qiCatalogTokens_4 r))
def qiCatalogTokens_6 (r : (List GToken)) : Exit → St → Prop := (blockK 2 (qiCatalogTokens_5 r))
def stiCatalogTokens_L0 (p0 : GCatalog) (x13 : Int) (b9_0 : (List GToken)) (b9_1 : Bool) : St := ⟨[(3, (.ptr 9 0)), (11, (.d (.sl 2 (p0.tables.map cGTable)))), (12, (vI (p0.tables.length : Int))), (13, (vI x13))], [(9, [(.osl 5039500 53 3 (b9_0.map cGToken)), (vB b9_1)])]⟩
def stiCatalogTokens_L1 (p0 : GCatalog) (x13 : Int) (y1 : GTable) (x30 : Int) (b9_0_5 : (List GToken)) (b9_1_6 : Bool) : St := ⟨[(3, (.ptr 9 0)), (11, (.d (.sl 2 (p0.tables.map cGTable)))), (12, (vI (p0.tables.length : Int))), (13, (vI x13)), (28, (.d (.sl 2 (y1.cols.map cGCol)))), (29, (vI (y1.cols.length : Int))), (30, (vI x30))], [(9, [(.osl 5039500 53 3 (b9_0_5.map cGToken)), (vB b9_1_6)])]⟩
def aciTypeText : AC := (.seq (.ops [.asg 2 (.c (.d (.s (bs []))))]) (.seq (.seq (.ops [.mv 3 0, .bin 4 .lss 3 (kI 0), .mv 5 4, .g 5 false (.mv 6 0), .g 5 false (.bin 7 .gtr 6 (kI 3)), .pick 8 5 (kB true) 7]) (.cond 8 (.seq (.ops [.asg 2 (.c (.d (.s (bs []))))]) .ret) .skip)) (.seq (.ops [.bsl 9 9 1 [(.c (.d (.s (bs [65, 78, 89])))), (.c (.d (.s (bs [73, 78, 84])))), (.c (.d (.s (bs [84, 69, 88, 84])))), (.c (.d (.s (bs [66, 79, 79, 76]))))], .mv 10 0, .ia 11 1 9 10, .ld 12 1 false 11, .asg 2 12]) .ret)))
theorem triTypeText : trFn Tryz.prog 87 = some (aciTypeText, [.mv 0 2], 13) := by kernel_rfl
def qiTypeText (r : (List UInt8)) : Exit → St → Prop := retQ [.mv 0 2] fun x _ => x = (fun y => (vS y)) r
def aciPrinter_sign_x : AC := (.ops [.mv 4 0, .mv 5 1, .call (some 6) 125 [4, (kI 5), 5]])
theorem triPrinter_sign_x : trFn Tryz.prog 86 = some (aciPrinter_sign_x, [], 7) := by kernel_rfl
def qiPrinter_sign_x (r : GPrinter) : Exit → St → Prop := retQ [] fun x b => x = (fun (y : GPrinter) => (.tup [])) r ∧ bxHas ((fun (y : GPrinter) => [(1000000, [(.osl 6000000 53 3 (y.list.map cGToken)), (vB y.full)])]) r) b
def aciPrinter_put_x : AC := (.ops [.mv 6 0, .mv 7 0, .nck 8 7, .fa 9 0 8, .ld 10 1 false 9, .mv 11 1, .mv 12 2, .bld 13 [(.d (.i .i64 0)), (.d (.s (bs []))), (.d (.i .i64 0))] [(0, 1, 11), (1, 1, 12)], .bsl 14 53 3 [13], .app 15 53 3 32 10 14, .nck 16 6, .fa 17 0 16, .st 1 17 15])
theorem triPrinter_put_x : trFn Tryz.prog 125 = some (aciPrinter_put_x, [], 18) := by kernel_rfl
def qiPrinter_put_x (r : GPrinter) : Exit → St → Prop := retQ [] fun x b => x = (fun (y : GPrinter) => (.tup [])) r ∧ bxHas ((fun (y : GPrinter) => [(1000000, [(.osl 6000000 53 3 (y.list.map cGToken)), (vB y.full)])]) r) b
def aciPrinter_name_x : AC := (.ops [.mv 4 0, .mv 5 1, .call (some 6) 125 [4, (kI 2), 5]])
theorem triPrinter_name_x : trFn Tryz.prog 85 = some (aciPrinter_name_x, [], 7) := by kernel_rfl
def qiPrinter_name_x (r : GPrinter) : Exit → St → Prop := retQ [] fun x b => x = (fun (y : GPrinter) => (.tup [])) r ∧ bxHas ((fun (y : GPrinter) => [(1000000, [(.osl 6000000 53 3 (y.list.map cGToken)), (vB y.full)])]) r) b
def aciPrinter_comma_x : AC := (.seq (.ops [.mv 4 1, .bin 5 .gtr 4 (kI 0)]) (.cond 5 (.ops [.mv 6 0, .call (some 7) 86 [6, (.c (.d (.s (bs [44]))))]]) .skip))
theorem triPrinter_comma_x : trFn Tryz.prog 84 = some (aciPrinter_comma_x, [], 8) := by kernel_rfl
def qiPrinter_comma_x (r : GPrinter) : Exit → St → Prop := retQ [] fun x b => x = (fun (y : GPrinter) => (.tup [])) r ∧ bxHas ((fun (y : GPrinter) => [(1000000, [(.osl 6000000 53 3 (y.list.map cGToken)), (vB y.full)])]) r) b
def aciSpaced : AC := (.seq (.ops [.asg 2 (.c (.d (.s (bs []))))]) (.seq (.ops [.mv 3 0, .call (some 4) 31 [3, (.c (.fn 34 []))], .asg 2 4]) .ret))
theorem triSpaced : trFn Tryz.prog 15 = some (aciSpaced, [.mv 0 2], 5) := by kernel_rfl
def qiSpaced (r : (List UInt8)) : Exit → St → Prop := retQ [.mv 0 2] fun x _ => x = (fun y => (vS y)) r
def aciJoined_iNeedsGap_J1 : AC := (.ops [.ld 32 3 true 7, .call (some 33) 53 [32], .call (some 34) 52 [5, 33]])
def aciJoined_iNeedsGap_L0 : AC := (.loop (.seq (.ops [.bin 12 .lss 11 10]) (.seq (.cond 12 .skip (.exit 0)) (.seq (.block 1 (.seq (.ops [.mv 13 11, .ia 14 3 9 11, .ld 15 3 true 14, .alc 7 [(.d (.i .i64 0)), (.d (.s (bs []))), (.d (.i .i64 0))], .asg 6 13, .st 3 7 15]) (.seq (.seq (.ops [.ld 16 3 true 7, .call (some 17) 51 [16], .not 18 17]) (.cond 18 (.seq (.ops [.asg 4 (.c (.d (.s (bs []))))]) .ret) .skip)) (.seq (.seq (.dops [[], [0], [1], [2], [2], [2], [5, 2], [4, 6, 2], [7, 2], [2], [3, 8, 9, 2, 2], [2, 10]] [.mv 19 6, .bin 20 .gtr 19 (kI 0), .mv 21 20, .g 21 true (.mv 22 1), .g 21 true (.mv 23 0), .g 21 true (.mv 24 6), .g 21 true (.bin 25 .sub 24 (kI 1)), .g 21 true (.ia 26 3 23 25), .g 21 true (.ld 27 3 true 26), .g 21 true (.ld 28 3 true 7), .g 21 true (.callv (some 29) 22 [27, 28]), .pick 30 21 29 (kB false)]) (.cond 30 (.ops [.call (some 31) 52 [5, (.c (.d (.s (bs [32]))))]]) .skip)) aciJoined_iNeedsGap_J1)))) (.ops [.bin 35 .add 11 (kI 1), .mv 11 35])))))
def aciJoined_iNeedsGap : AC := (.seq (.ops [.asg 4 (.c (.d (.s (bs []))))]) (.seq (.ops [.bld 8 [.np, (.nil 1)] [], .alc 5 [(.bp 5 74), (.nil 1)], .st 2 5 8]) (.seq (.seq (.ops [.mv 9 0, .len 10 9, .mv 11 (kI 0)]) (.block 0 aciJoined_iNeedsGap_L0)) (.seq (.seq (.ops [.call (some 36) 54 [5], .bin 37 .gtr 36 (kI 2000)]) (.cond 37 (.seq (.ops [.asg 4 (.c (.d (.s (bs []))))]) .ret) .skip)) (.seq (.ops [.call (some 38) 55 [5], .asg 4 38]) .ret)))))
theorem triJoined_iNeedsGap : trFn Tryz.prog 31 = some (aciJoined_iNeedsGap, [.mv 0 4], 39) := by kernel_rfl
def qiJoined_iNeedsGap (r : (List UInt8)) : Exit → St → Prop := retQ [.mv 0 4] fun x _ => x = (fun y => (vS y)) r
def qiJoined_iNeedsGap_0 (r : (List UInt8)) : Exit → St → Prop := (thenK (wkK (avc Tryz.prog (.seq (.seq (.ops [.call (some 36) 54 [5], .bin 37 .gtr 36 (.c (.d (.i .i64 2000)))]) (.cond 37 (.seq (.ops [.asg 4 (.c (.d (.s (bs []))))]) .ret) .skip)) (.seq (.ops [.call (some 38) 55 [5], .asg 4 38]) .ret)) (qiJoined_iNeedsGap r))) (qiJoined_iNeedsGap r))
def qiJoined_iNeedsGap_1 (r : (List UInt8)) : Exit → St → Prop := (blockK 0 (qiJoined_iNeedsGap_0 r))
def qiJoined_iNeedsGap_2 (r : (List UInt8)) : Exit → St → Prop := (thenK (avc Tryz.prog aciJoined_iNeedsGap_L0 (qiJoined_iNeedsGap_1 r)) (qiJoined_iNeedsGap_1 r))
def qiJoined_iNeedsGap_3 (r : (List UInt8)) : Exit → St → Prop := (thenK (wkK (avc Tryz.prog (.ops [.bin 35 .add 11 (.c (.d (.i .i64 1))), .mv 11 35]) (qiJoined_iNeedsGap_2 r))) (qiJoined_iNeedsGap_2 r))
def qiJoined_iNeedsGap_4 (r : (List UInt8)) : Exit → St → Prop := (blockK 1 (qiJoined_iNeedsGap_3 r))
def stiJoined_iNeedsGap_L0 (p0 : (List GToken)) (x11 : Int) (b5_1 : (List Int)) : St := ⟨[(0, (.d (.sl 3 (p0.map cGToken)))), (1, (.fn 34 [])), (5, (.ptr 5 0)), (9, (.d (.sl 3 (p0.map cGToken)))), (10, (vI (p0.length : Int))), (11, (vI x11))], [(5, [(.bp 5 74), (.osl 5062501 5 1 (b5_1.map cU8))])]⟩
def stiJoined_iNeedsGap_J1 (p0 : (List GToken)) (x11 : Int) (y1 : GToken) (b5_1_7 : (List Int)) : St := ⟨[(0, (.d (.sl 3 (p0.map cGToken)))), (1, (.fn 34 [])), (5, (.ptr 5 0)), (7, (.ptr 7 0)), (9, (.d (.sl 3 (p0.map cGToken)))), (10, (vI (p0.length : Int))), (11, (vI x11))], [(5, [(.bp 5 74), (.osl 5062501 5 1 (b5_1_7.map cU8))]), (7, bGToken y1)]⟩
def aciNeedsGap : AC := (.seq (.ops [.box 2 53 0, .box 3 53 1, .asg 4 (kB false)]) (.seq (.seq (.ops [.ld 5 3 true 2, .call (some 6) 51 [5], .not 7 6, .mv 8 7, .g 8 false (.ld 9 3 true 3), .g 8 false (.call (some 10) 51 [9]), .g 8 false (.not 11 10), .pick 12 8 (kB true) 11]) (.cond 12 (.seq (.ops [.asg 4 (kB false)]) .ret) .skip)) (.seq (.seq (.ops [.ld 13 3 true 2, .call (some 14) 56 [13], .mv 15 14, .g 15 true (.ld 16 3 true 3), .g 15 true (.call (some 17) 56 [16]), .pick 18 15 17 (kB false), .mv 19 18, .g 19 false (.ld 20 3 true 2), .g 19 false (.call (some 21) 57 [20]), .g 19 false (.mv 22 21), .g 22 true (.ld 23 3 true 3), .g 22 true (.call (some 24) 57 [23]), .g 19 false (.pick 25 22 24 (kB false)), .pick 26 19 (kB true) 25, .mv 27 26, .g 27 false (.fa 28 0 2), .g 27 false (.ld 29 1 false 28), .g 27 false (.bin 30 .eql 29 (kI 4)), .g 27 false (.mv 31 30), .g 31 true (.fa 32 0 3), .g 31 true (.ld 33 1 false 32), .g 31 true (.bin 34 .eql 33 (kI 4)), .g 27 false (.pick 35 31 34 (kB false)), .pick 36 27 (kB true) 35]) (.cond 36 (.seq (.ops [.asg 4 (kB true)]) .ret) .skip)) (.seq (.seq (.ops [.fa 37 0 2, .ld 38 1 false 37, .bin 39 .neq 38 (kI 5), .mv 40 39, .g 40 false (.fa 41 0 3), .g 40 false (.ld 42 1 false 41), .g 40 false (.bin 43 .neq 42 (kI 5)), .pick 44 40 (kB true) 43]) (.cond 44 (.seq (.ops [.asg 4 (kB false)]) .ret) .skip)) (.seq (.seq (.ops [.fa 45 1 2, .ld 46 1 false 45]) (.block 0 (.seq (.ops [.bin 48 .eql 46 (.c (.d (.s (bs [45])))), .asg 47 48]) (.cond 47 (.seq (.ops [.fa 49 1 3, .ld 50 1 false 49, .bin 51 .eql 50 (.c (.d (.s (bs [45])))), .asg 4 51]) .ret) (.seq (.ops [.bin 53 .eql 46 (.c (.d (.s (bs [47])))), .asg 52 53]) (.cond 52 (.seq (.ops [.fa 54 1 3, .ld 55 1 false 54, .bin 56 .eql 55 (.c (.d (.s (bs [42])))), .asg 4 56]) .ret) (.seq (.ops [.bin 58 .eql 46 (.c (.d (.s (bs [60])))), .asg 57 58]) (.cond 57 (.seq (.ops [.fa 59 1 3, .ld 60 1 false 59, .ix 61 60 (kI 0), .bin 62 .eql 61 (.c (.d (.i .u8 61))), .mv 63 62, .g 63 false (.fa 64 1 3), .g 63 false (.ld 65 1 false 64), .g 63 false (.ix 66 65 (kI 0)), .g 63 false (.bin 67 .eql 66 (.c (.d (.i .u8 62)))), .pick 68 63 (kB true) 67, .asg 4 68]) .ret) (.seq (.ops [.bin 70 .eql 46 (.c (.d (.s (bs [62])))), .asg 69 70]) (.cond 69 (.seq (.ops [.fa 71 1 3, .ld 72 1 false 71, .ix 73 72 (kI 0), .bin 74 .eql 73 (.c (.d (.i .u8 61))), .asg 4 74]) .ret) .skip)))))))))) (.seq (.ops [.asg 4 (kB false)]) .ret))))))
theorem triNeedsGap : trFn Tryz.prog 34 = some (aciNeedsGap, [.mv 0 4], 75) := by kernel_rfl
def qiNeedsGap (r : Bool) : Exit → St → Prop := retQ [.mv 0 4] fun x _ => x = (fun y => (vB y)) r
def aciIsQuotedName : AC := (.seq (.ops [.box 1 53 0, .asg 2 (kB false)]) (.seq (.ops [.fa 3 0 1, .ld 4 1 false 3, .bin 5 .eql 4 (kI 2), .mv 6 5, .g 6 true (.fa 7 1 1), .g 6 true (.ld 8 1 false 7), .g 6 true (.call (some 9) 106 [8]), .g 6 true (.not 10 9), .pick 11 6 10 (kB false), .asg 2 11]) .ret))
theorem triIsQuotedName : trFn Tryz.prog 57 = some (aciIsQuotedName, [.mv 0 2], 12) := by kernel_rfl
def qiIsQuotedName (r : Bool) : Exit → St → Prop := retQ [.mv 0 2] fun x _ => x = (fun y => (vB y)) r
def aciPlainName_L0 : AC := (.loop (.seq (.ops [.bin 20 .lss 19 18]) (.seq (.cond 20 .skip (.exit 0)) (.seq (.block 1 (.seq (.ops [.mv 21 19, .asg 3 21]) (.seq (.ops [.mv 22 0, .mv 23 3, .ix 24 22 23, .call (some 25) 65 [24], .not 26 25]) (.cond 26 (.seq (.ops [.asg 2 (kB false)]) .ret) .skip)))) (.ops [.bin 27 .add 19 (kI 1), .mv 19 27])))))
def aciPlainName : AC := (.seq (.ops [.asg 2 (kB false)]) (.seq (.seq (.ops [.mv 4 0, .call (some 5) 100 [4], .not 6 5, .mv 7 6, .g 7 false (.mv 8 0), .g 7 false (.ix 9 8 (kI 0)), .g 7 false (.call (some 10) 66 [9]), .pick 11 7 (kB true) 10, .mv 12 11, .g 12 false (.mv 13 0), .g 12 false (.call (some 14) 67 [13]), .g 12 false (.bin 15 .neq 14 (kI 0)), .pick 16 12 (kB true) 15]) (.cond 16 (.seq (.ops [.asg 2 (kB false)]) .ret) .skip)) (.seq (.seq (.ops [.mv 17 0, .lns 18 17, .mv 19 (kI 0)]) (.block 0 aciPlainName_L0)) (.seq (.ops [.asg 2 (kB true)]) .ret))))
theorem triPlainName : trFn Tryz.prog 106 = some (aciPlainName, [.mv 0 2], 28) := by kernel_rfl
def qiPlainName (r : Bool) : Exit → St → Prop := retQ [.mv 0 2] fun x _ => x = (fun y => (vB y)) r
def qiPlainName_0 (r : Bool) : Exit → St → Prop := (thenK (wkK (avc Tryz.prog (.seq (.ops [.asg 2 (.c (.d (.b true)))]) .ret) (qiPlainName r))) (qiPlainName r))
def qiPlainName_1 (r : Bool) : Exit → St → Prop := (blockK 0 (qiPlainName_0 r))
def stiPlainName_L0 (p0 : (List UInt8)) (x19 : Int) : St := ⟨[(0, (vS p0)), (18, (vI (p0.length : Int))), (19, (vI x19))], []⟩
def aciIsPart : AC := (.seq (.ops [.asg 2 (kB false)]) (.seq (.ops [.mv 3 0, .call (some 4) 112 [3], .mv 5 4, .g 5 false (.mv 6 0), .g 5 false (.call (some 7) 66 [6]), .pick 8 5 (kB true) 7, .asg 2 8]) .ret))
theorem triIsPart : trFn Tryz.prog 65 = some (aciIsPart, [.mv 0 2], 9) := by kernel_rfl
def qiIsPart (r : Bool) : Exit → St → Prop := retQ [.mv 0 2] fun x _ => x = (fun y => (vB y)) r
def aciIsDigit : AC := (.seq (.ops [.asg 2 (kB false)]) (.seq (.ops [.mv 3 0, .bin 4 .geq 3 (.c (.d (.i .u8 48))), .mv 5 4, .g 5 true (.mv 6 0), .g 5 true (.bin 7 .leq 6 (.c (.d (.i .u8 57)))), .pick 8 5 7 (kB false), .asg 2 8]) .ret))
theorem triIsDigit : trFn Tryz.prog 66 = some (aciIsDigit, [.mv 0 2], 9) := by kernel_rfl
def qiIsDigit (r : Bool) : Exit → St → Prop := retQ [.mv 0 2] fun x _ => x = (fun y => (vB y)) r
def aciIsStart : AC := (.seq (.ops [.asg 2 (kB false)]) (.seq (.ops [.mv 3 0, .bin 4 .geq 3 (.c (.d (.i .u8 97))), .mv 5 4, .g 5 true (.mv 6 0), .g 5 true (.bin 7 .leq 6 (.c (.d (.i .u8 122)))), .pick 8 5 7 (kB false), .mv 9 8, .g 9 false (.mv 10 0), .g 9 false (.bin 11 .geq 10 (.c (.d (.i .u8 65)))), .g 9 false (.mv 12 11), .g 12 true (.mv 13 0), .g 12 true (.bin 14 .leq 13 (.c (.d (.i .u8 90)))), .g 9 false (.pick 15 12 14 (kB false)), .pick 16 9 (kB true) 15, .mv 17 16, .g 17 false (.mv 18 0), .g 17 false (.bin 19 .eql 18 (.c (.d (.i .u8 95)))), .pick 20 17 (kB true) 19, .asg 2 20]) .ret))
theorem triIsStart : trFn Tryz.prog 112 = some (aciIsStart, [.mv 0 2], 21) := by kernel_rfl
def qiIsStart (r : Bool) : Exit → St → Prop := retQ [.mv 0 2] fun x _ => x = (fun y => (vB y)) r
def aciNameOk : AC := (.seq (.ops [.asg 2 (kB false)]) (.seq (.ops [.mv 3 0, .lns 4 3, .bin 5 .geq 4 (kI 1), .mv 6 5, .g 6 true (.mv 7 0), .g 6 true (.lns 8 7), .g 6 true (.bin 9 .leq 8 (kI 20)), .pick 10 6 9 (kB false), .asg 2 10]) .ret))
theorem triNameOk : trFn Tryz.prog 100 = some (aciNameOk, [.mv 0 2], 11) := by kernel_rfl
def qiNameOk (r : Bool) : Exit → St → Prop := retQ [.mv 0 2] fun x _ => x = (fun y => (vB y)) r
def aciKeyOf : AC := (.seq (.ops [.asg 2 (kI 0)]) (.seq (.ops [.call (some 3) 114 [], .mv 4 0, .call (some 5) 68 [4], .call (some 6) 113 [3, 5], .bin 7 .add 6 (kI 1), .asg 2 7]) .ret))
theorem triKeyOf : trFn Tryz.prog 67 = some (aciKeyOf, [.mv 0 2], 8) := by kernel_rfl
def qiKeyOf (r : Int) : Exit → St → Prop := retQ [.mv 0 2] fun x _ => x = (fun y => (vI y)) r
def aciKeywords : AC := (.seq (.ops [.asg 0 (.c (.nil 1))]) (.seq (.ops [.call (some 1) 144 [(.c (.d (.s (bs [83, 69, 76, 69, 67, 84, 32, 68, 73, 83, 84, 73, 78, 67, 84, 32, 70, 82, 79, 77, 32, 74, 79, 73, 78, 32, 79, 78, 32, 87, 72, 69, 82, 69, 32, 79, 82, 68, 69, 82, 32, 66, 89, 32, 65, 83, 67, 32, 68, 69, 83, 67, 32, 76, 73, 77, 73, 84, 32, 65, 83, 32, 65, 78, 68, 32, 79, 82, 32, 78, 79, 84, 32, 73, 83, 32, 73, 78, 32, 66, 69, 84, 87, 69, 69, 78, 32, 69, 88, 73, 83, 84, 83, 32, 78, 85, 76, 76, 32, 84, 82, 85, 69, 32, 70, 65, 76, 83, 69, 32, 73, 78, 83, 69, 82, 84, 32, 73, 78, 84, 79, 32, 86, 65, 76, 85, 69, 83, 32, 85, 80, 68, 65, 84, 69, 32, 83, 69, 84, 32, 68, 69, 76, 69, 84, 69])))), (.c (.d (.s (bs [32]))))], .asg 0 1]) .ret))
theorem triKeywords : trFn Tryz.prog 114 = some (aciKeywords, [.mv 0 0], 2) := by kernel_rfl
def qiKeywords (r : (List (List UInt8))) : Exit → St → Prop := retQ [.mv 0 0] fun x _ => x = (fun y => (.d (.sl 1 (y.map cStr)))) r

def aciFold_J1 : AC := (.ops [.bin 27 .add 10 (kI 1), .mv 10 27])
def aciFold_L0 : AC := (.loop (.seq (.ops [.bin 11 .lss 10 9]) (.seq (.cond 11 .skip (.exit 0)) (.seq (.block 1 (.seq (.ops [.mv 12 10, .ia 13 1 8 10, .ld 14 1 false 13, .asg 4 12, .asg 5 14]) (.seq (.ops [.mv 15 5, .bin 16 .geq 15 (.c (.d (.i .u8 97))), .mv 17 16, .g 17 true (.mv 18 5), .g 17 true (.bin 19 .leq 18 (.c (.d (.i .u8 122)))), .pick 20 17 19 (kB false)]) (.cond 20 (.ops [.mv 21 3, .mv 22 4, .mv 23 5, .bin 24 .sub 23 (.c (.d (.i .u8 97))), .bin 25 .add 24 (.c (.d (.i .u8 65))), .ia 26 1 21 22, .st 1 26 25]) .skip)))) aciFold_J1))))
def aciFold_J2 : AC := (.seq (.ops [.mv 28 3, .cbs 29 28, .asg 2 29]) .ret)
def aciFold : AC := (.seq (.ops [.asg 2 (.c (.d (.s (bs []))))]) (.seq (.ops [.mv 6 0, .csb 7 5 6, .asg 3 7]) (.seq (.seq (.ops [.mv 8 3, .len 9 8, .mv 10 (kI 0)]) (.block 0 aciFold_L0)) aciFold_J2)))
theorem triFold : trFn Tryz.prog 68 = some (aciFold, [.mv 0 2], 30) := by kernel_rfl
def qiFold (r : (List UInt8)) : Exit → St → Prop := retQ [.mv 0 2] fun x _ => x = (fun y => (vS y)) r
def qiFold_0 (r : (List UInt8)) : Exit → St → Prop := (thenK (wkK (avc Tryz.prog aciFold_J2 (qiFold r))) (qiFold r))
def qiFold_1 (r : (List UInt8)) : Exit → St → Prop := (blockK 0 (qiFold_0 r))
def qiFold_2 (r : (List UInt8)) : Exit → St → Prop := (thenK (avc Tryz.prog aciFold_L0 (qiFold_1 r)) (qiFold_1 r))
def stiFold_L0 (p0 : (List UInt8)) (x10 : Int) (b60015000_0 : (List Int)) : St := ⟨[(3, (.tre 60015000)), (8, (.tre 60015000)), (9, (vI ((toBytes p0).length : Int))), (10, (vI x10))], [(60015000, [(.trc 1 (b60015000_0.map cU8))])]⟩
def stiFold_J1 (p0 : (List UInt8)) (x10 : Int) (b60050000_0 : (List Int)) : St := ⟨[(3, (.tre 60050000)), (8, (.tre 60050000)), (9, (vI ((toBytes p0).length : Int))), (10, (vI x10))], [(60050000, [(.trc 1 (b60050000_0.map cU8))])]⟩
def stiFold_J2 (x3 : (List Int)) : St := ⟨[(3, (.d (.sl 1 (x3.map cU8))))], []⟩
def acgSlices_Index_Sstring_string_L0 : AC := (.loop (.seq (.ops [.bin 9 .lss 8 7]) (.seq (.cond 9 .skip (.exit 0)) (.seq (.block 1 (.seq (.ops [.mv 10 8, .asg 5 10]) (.seq (.ops [.mv 11 1, .mv 12 0, .mv 13 5, .ia 14 1 12 13, .ld 15 1 false 14, .bin 16 .eql 11 15]) (.cond 16 (.seq (.ops [.mv 17 5, .asg 4 17]) .ret) .skip)))) (.ops [.bin 18 .add 8 (kI 1), .mv 8 18])))))
def acgSlices_Index_Sstring_string : AC := (.seq (.ops [.asg 4 (kI 0)]) (.seq (.seq (.ops [.mv 6 0, .len 7 6, .mv 8 (kI 0)]) (.block 0 acgSlices_Index_Sstring_string_L0)) (.seq (.ops [.asg 4 (kI (-1))]) .ret)))
theorem trgSlices_Index_Sstring_string : trFn Tryz.prog 113 = some (acgSlices_Index_Sstring_string, [.mv 0 4], 19) := by kernel_rfl
def qgSlices_Index_Sstring_string (r : Int) : Exit → St → Prop := retQ [.mv 0 4] fun x _ => x = (fun y => (vI y)) r
def qgSlices_Index_Sstring_string_0 (r : Int) : Exit → St → Prop := (thenK (wkK (avc Tryz.prog (.seq (.ops [.asg 4 (.c (.d (.i .i64 (-1))))]) .ret) (qgSlices_Index_Sstring_string r))) (qgSlices_Index_Sstring_string r))
def qgSlices_Index_Sstring_string_1 (r : Int) : Exit → St → Prop := (blockK 0 (qgSlices_Index_Sstring_string_0 r))
def stgSlices_Index_Sstring_string_L0 (p0 : (List (List UInt8))) (p1 : (List UInt8)) (x8 : Int) : St := ⟨[(0, (.d (.sl 1 (p0.map cStr)))), (1, (vS p1)), (7, (vI (p0.length : Int))), (8, (vI x8))], []⟩
def aciIsWord : AC := (.seq (.ops [.box 1 53 0, .asg 2 (kB false)]) (.seq (.ops [.fa 3 0 1, .ld 4 1 false 3, .bin 5 .eql 4 (kI 1), .mv 6 5, .g 6 false (.fa 7 0 1), .g 6 false (.ld 8 1 false 7), .g 6 false (.bin 9 .eql 8 (kI 3)), .pick 10 6 (kB true) 9, .mv 11 10, .g 11 false (.fa 12 0 1), .g 11 false (.ld 13 1 false 12), .g 11 false (.bin 14 .eql 13 (kI 2)), .g 11 false (.mv 15 14), .g 15 true (.fa 16 1 1), .g 15 true (.ld 17 1 false 16), .g 15 true (.call (some 18) 106 [17]), .g 11 false (.pick 19 15 18 (kB false)), .pick 20 11 (kB true) 19, .asg 2 20]) .ret))
theorem triIsWord : trFn Tryz.prog 56 = some (aciIsWord, [.mv 0 2], 21) := by kernel_rfl
def qiIsWord (r : Bool) : Exit → St → Prop := retQ [.mv 0 2] fun x _ => x = (fun y => (vB y)) r
def aciTokenOk : AC := (.seq (.ops [.box 1 53 0, .asg 2 (kB false)]) (.seq (.seq (.ops [.fa 5 0 1, .ld 6 1 false 5]) (.block 0 (.seq (.ops [.bin 8 .eql 6 (kI 1), .asg 7 8]) (.cond 7 (.seq (.dops [[], [0], [1], [2], [3, 2], [4], [5, 4], [6, 4, 4], [4], [8, 4], [7, 9, 4], [4, 10], [11, 7, 0, 1, 2, 3, 4, 5, 6, 7, 8, 9, 10, 11]] [.fa 9 1 1, .ld 10 1 false 9, .call (some 11) 67 [10], .bin 12 .neq 11 (kI 0), .mv 13 12, .g 13 true (.fa 14 1 1), .g 13 true (.ld 15 1 false 14), .g 13 true (.call (some 16) 68 [15]), .g 13 true (.fa 17 1 1), .g 13 true (.ld 18 1 false 17), .g 13 true (.bin 19 .eql 16 18), .pick 20 13 19 (kB false), .asg 2 20]) .ret) (.seq (.ops [.bin 22 .eql 6 (kI 2), .asg 21 22]) (.cond 21 (.seq (.ops [.fa 23 1 1, .ld 24 1 false 23, .call (some 25) 100 [24], .asg 2 25]) .ret) (.seq (.ops [.bin 27 .eql 6 (kI 3), .asg 26 27]) (.cond 26 (.seq (.ops [.fa 29 1 1, .ld 30 1 false 29, .call (some 31) 101 [30], .mv 28 31, .ext 32 28 0, .ext 33 28 1, .asg 3 32, .asg 4 33]) (.seq (.ops [.mv 34 4, .asg 2 34]) .ret)) (.seq (.ops [.bin 36 .eql 6 (kI 4), .asg 35 36]) (.cond 35 (.seq (.ops [.fa 37 1 1, .ld 38 1 false 37, .lns 39 38, .bin 40 .leq 39 (kI 40), .asg 2 40]) .ret) (.seq (.ops [.bin 42 .eql 6 (kI 5), .asg 41 42]) (.cond 41 (.seq (.ops [.fa 43 1 1, .ld 44 1 false 43, .call (some 45) 102 [44], .asg 2 45]) .ret) .skip)))))))))))) (.seq (.ops [.asg 2 (kB false)]) .ret)))
theorem triTokenOk : trFn Tryz.prog 51 = some (aciTokenOk, [.mv 0 2], 46) := by kernel_rfl
def qiTokenOk (r : Bool) : Exit → St → Prop := retQ [.mv 0 2] fun x _ => x = (fun y => (vB y)) r
set_option maxHeartbeats 2000000 in
set_option maxRecDepth 100000 in
theorem digits_walk_135 (n : Int) (h0 : -9223372036854775808 ≤ n) (h1 : n ≤ 9223372036854775807) (w : World) (hv : NumVars 1 2 3 w) :
    Calls Tryz.prog 135 #[.int .i64 n] w fun e w' => e = .returned (.string ⟨(Lib.itoa n).toArray⟩) ∧ Grows w w' := by
  go_enter Tryz.func135, Tryz.ntmps135
  go_wp2_with (go_at_call 152; refine (num_itoa (g15 := 1) (g16 := 2) sh171 n h0 h1 _ hv).mono ?_; rintro e w' ⟨rfl, hw⟩)
  go_ret
  exact ⟨rfl, hw⟩
set_option maxHeartbeats 4000000 in
set_option maxRecDepth 100000 in
theorem number_walk_101 : NumWalk Tryz.prog 101 1 2 3 := by
  intro s w hs hv
  by_cases hok : ∃ v, Lib.atoiAll s.data.toList = .ok v
  · obtain ⟨v, hc⟩ := hok
    have hb := Lib.atoiAll_bounds hc
    by_cases hneg : v < 0
    · have hr : numG s.data.toList = (0, false) := by unfold numG; rw [hc]; simp only; rw [if_pos hneg]
      rw [hr]
      go_enter Tryz.func101, Tryz.ntmps101
      go_wp2_with (go_at_call 134; refine (num_ok sh172 s hs v hc _).mono ?_; rintro e w' ⟨rfl, hw⟩)
      go_ret2
      exact ⟨rfl, hw⟩
    · by_cases he : Lib.itoa v = s.data.toList
      · have hr : numG s.data.toList = (v, true) := by unfold numG; rw [hc]; simp only; rw [if_neg hneg, if_pos he]
        have hes : (⟨(Lib.itoa v).toArray⟩ : ByteArray) = s := by rw [he]
        rw [hr]
        go_enter Tryz.func101, Tryz.ntmps101
        go_wp2_with (go_at_call 134; refine (num_ok sh172 s hs v hc _).mono ?_; rintro e w' ⟨rfl, hw⟩)
        go_wp2_with (go_at_call 135; refine (digits_walk_135 v hb.1 hb.2 _ (hv.grow hw)).mono ?_; rintro e w2 ⟨rfl, hw2⟩; rw [hes])
        go_ret2
        exact ⟨rfl, hw.trans hw2⟩
      · have hr : numG s.data.toList = (0, false) := by unfold numG; rw [hc]; simp only; rw [if_neg hneg, if_neg he]
        have hne : (⟨(Lib.itoa v).toArray⟩ : ByteArray) ≠ s := fun e => he (by rw [← e])
        rw [hr]
        generalize hz : (⟨(Lib.itoa v).toArray⟩ : ByteArray) = z at hne
        go_enter Tryz.func101, Tryz.ntmps101
        go_wp2_with (go_at_call 134; refine (num_ok sh172 s hs v hc _).mono ?_; rintro e w' ⟨rfl, hw⟩)
        go_wp2_with (go_at_call 135; refine (digits_walk_135 v hb.1 hb.2 _ (hv.grow hw)).mono ?_; rintro e w2 ⟨rfl, hw2⟩; rw [hz])
        · go_ret2
          exact ⟨rfl, hw.trans hw2⟩
        · rename_i hh
          have h2 : z.data.toList = s.data.toList := by
            have := hh.2
            rw [Lib.toList_data, Lib.toList_data] at this
            simpa using this
          exact absurd ((Lib.mk_data z).symm.trans ((congrArg (fun l : List UInt8 => (⟨l.toArray⟩ : ByteArray)) h2).trans (Lib.mk_data s))) hne
  · have hno : ∀ v, Lib.atoiAll s.data.toList ≠ .ok v := fun v e => hok ⟨v, e⟩
    have hr : numG s.data.toList = (0, false) := by
      unfold numG
      split
      · rename_i n hn; exact absurd hn (hno n)
      · rfl
    rw [hr]
    obtain ⟨v, hcall⟩ := num_bad sh172 s hs hno w hv
    go_enter Tryz.func101, Tryz.ntmps101
    go_wp2_with (go_at_call 134; refine hcall.mono ?_)
    rintro e w' ⟨t, N, rfl, hw⟩
    go_wp2
    go_ret2
    exact ⟨rfl, hw⟩
def aciSignOk : AC := (.seq (.ops [.asg 2 (kB false)]) (.seq (.ops [.call (some 3) 70 [], .mv 4 0, .call (some 5) 136 [3, 4], .asg 2 5]) .ret))
theorem triSignOk : trFn Tryz.prog 102 = some (aciSignOk, [.mv 0 2], 6) := by kernel_rfl
def qiSignOk (r : Bool) : Exit → St → Prop := retQ [.mv 0 2] fun x _ => x = (fun y => (vB y)) r
def acgSlices_Contains_Sstring_string : AC := (.seq (.ops [.asg 4 (kB false)]) (.seq (.ops [.mv 5 0, .mv 6 1, .call (some 7) 113 [5, 6], .bin 8 .geq 7 (kI 0), .asg 4 8]) .ret))
theorem trgSlices_Contains_Sstring_string : trFn Tryz.prog 136 = some (acgSlices_Contains_Sstring_string, [.mv 0 4], 9) := by kernel_rfl
def qgSlices_Contains_Sstring_string (r : Bool) : Exit → St → Prop := retQ [.mv 0 4] fun x _ => x = (fun y => (vB y)) r
def aciSigns : AC := (.seq (.ops [.asg 0 (.c (.nil 1))]) (.seq (.ops [.bsl 1 9 1 [(.c (.d (.s (bs [40])))), (.c (.d (.s (bs [41])))), (.c (.d (.s (bs [44])))), (.c (.d (.s (bs [46])))), (.c (.d (.s (bs [42])))), (.c (.d (.s (bs [43])))), (.c (.d (.s (bs [45])))), (.c (.d (.s (bs [47])))), (.c (.d (.s (bs [37])))), (.c (.d (.s (bs [61])))), (.c (.d (.s (bs [60, 62])))), (.c (.d (.s (bs [60])))), (.c (.d (.s (bs [60, 61])))), (.c (.d (.s (bs [62])))), (.c (.d (.s (bs [62, 61])))), (.c (.d (.s (bs [124, 124]))))], .asg 0 1]) .ret))
theorem triSigns : trFn Tryz.prog 70 = some (aciSigns, [.mv 0 0], 2) := by kernel_rfl
def qiSigns (r : (List (List UInt8))) : Exit → St → Prop := retQ [.mv 0 0] fun x b => x = (fun (y : (List (List UInt8))) => (.osl 2000000 9 1 (y.map cStr))) r ∧ bxHas ((fun (y : (List (List UInt8))) => []) r) b
set_option maxHeartbeats 2000000 in
set_option maxRecDepth 100000 in
theorem bstr_row_55 : ∀ (b g cap : Nat) (cur : Array Value) (s : List UInt8) (w : World), w.cell? ⟨b, 1, none⟩ = some (.slice (some ⟨g, 0, none⟩) s.length cap) → s ≠ [] → s.length ≤ cap → cap ≤ maxLen → cur.size = cap * 1 →
    w.heap[g]? = some (.cells cur 5 (0, 0)) → (∀ j x, s[j]? = some x → w.cell? ((⟨g, 0, none⟩ : Addr).add j) = some (.int .u8 x.toNat)) →
    Calls Tryz.prog 55 #[.pointer (some ⟨b, 0, none⟩)] w fun e w' => e = .returned (.string ⟨s.toArray⟩) ∧ w' = w.drew.freeze ⟨g, 0, none⟩ s.length := by
  intro b g cap cur s w c0 h0 hnc hcm hcs hg hcell
  have hl0 : s.length ≠ 0 := by simpa using h0
  have c1 : w.drew.cell? ⟨b, 1, none⟩ = some (.slice (some ⟨g, 0, none⟩) s.length cap) := c0
  have hSD : (Builtin.unsafeSliceData_ #[29] 125 #[.slice (some ⟨g, 0, none⟩) s.length cap]).run Tryz.prog w.drew = .ok (.pointer (some ⟨g, 0, none⟩)) w.drew :=
    Lib.run_unsafeSliceData_row _ _ _ _ _ _ (by omega)
  have hUS : (Builtin.unsafeString_ #[125, 3] 9 #[.pointer (some ⟨g, 0, none⟩), .int .i64 s.length]).run Tryz.prog w.drew = .ok (.string ⟨s.toArray⟩) (w.drew.freeze ⟨g, 0, none⟩ s.length) := by
    refine Lib.run_unsafeString_row w.drew 125 3 9 5 (show Tryz.prog.underlying 125 = some (.pointer 5) by kernel_rfl) (show Tryz.prog.cellsOf 5 = 1 by kernel_rfl) g cur.size (by have hg' : w.drew.heap[g]? = some (.cells cur 5 (0, 0)) := hg; simp [World.shape?, hg']) s h0 (by omega) (by unfold maxLen at hcm; omega) ?_
    intro j x hx
    exact hcell j x hx
  go_enter Tryz.func55, Tryz.ntmps55
  go_wp2
  go_region
  all_goals (go_wp2; go_ret; exact ⟨rfl, rfl⟩)
set_option maxHeartbeats 2000000 in
set_option maxRecDepth 100000 in
theorem bstr_nil_55 : ∀ (b : Nat) (w : World), w.cell? ⟨b, 1, none⟩ = some (.slice none 0 0) → Calls Tryz.prog 55 #[.pointer (some ⟨b, 0, none⟩)] w fun e w' => e = .returned (.string ⟨#[]⟩) ∧ w' = w.drew := by
  intro b w c0
  have hUS : ∀ (W : World) (q : Option Addr), (Builtin.unsafeString_ #[125, 3] 9 #[.pointer q, .int .i64 0]).run Tryz.prog W = .ok (.string .empty) W := fun W q => Lib.run_unsafeString_none W _ _ _ q
  have c1 : w.drew.cell? ⟨b, 1, none⟩ = some (.slice none 0 0) := c0
  have hSD : (Builtin.unsafeSliceData_ #[29] 125 #[.slice none 0 0]).run Tryz.prog w.drew = .ok (.pointer none) w.drew := rfl
  go_enter Tryz.func55, Tryz.ntmps55
  go_wp2
  go_region
  all_goals (go_wp2; go_ret; exact ⟨rfl, rfl⟩)
set_option maxHeartbeats 2000000 in
set_option maxRecDepth 100000 in
theorem bstr_noroom_55 : ∀ (b g : Nat) (cur : Array Value) (w : World), w.cell? ⟨b, 1, none⟩ = some (.slice (some ⟨g, 0, none⟩) 0 0) → b < w.heap.size → w.heap[g]? = some (.cells cur 5 (0, 0)) →
    Calls Tryz.prog 55 #[.pointer (some ⟨b, 0, none⟩)] w fun e' w' => e' = .returned (.string ⟨#[]⟩) ∧ w' = w.drew.alloc (.view ⟨g, 0, none⟩ 5) := by
  intro b g cur w c0 hlt hg
  have hUS : ∀ (W : World) (q : Option Addr), (Builtin.unsafeString_ #[125, 3] 9 #[.pointer q, .int .i64 0]).run Tryz.prog W = .ok (.string .empty) W := fun W q => Lib.run_unsafeString_none W _ _ _ q
  have c1 : w.drew.cell? ⟨b, 1, none⟩ = some (.slice (some ⟨g, 0, none⟩) 0 0) := c0
  have hSD : (Builtin.unsafeSliceData_ #[29] 125 #[.slice (some ⟨g, 0, none⟩) 0 0]).run Tryz.prog w.drew = .ok (.pointer (some ⟨w.drew.heap.size, 0, none⟩)) (w.drew.alloc (.view ⟨g, 0, none⟩ 5)) :=
    Lib.run_unsafeSliceData_zero w.drew _ _ 5 (show Tryz.prog.underlying 125 = some (.pointer 5) by kernel_rfl) ⟨g, 0, none⟩ 0 (5, cur.size) (by have hg' : w.drew.heap[g]? = some (.cells cur 5 (0, 0)) := hg; simp [World.shape?, hg'])
  have c2 : (w.drew.alloc (.view ⟨g, 0, none⟩ 5)).cell? ⟨b, 1, none⟩ = some (.slice (some ⟨g, 0, none⟩) 0 0) :=
    (World.cell?_of_block (a := ⟨b, 1, none⟩) (RowKit.Below.heap_alloc w.drew _ b hlt)).trans c1
  have c3 : (w.alloc (.view ⟨g, 0, none⟩ 5)).drew.cell? ⟨b, 1, none⟩ = some (.slice (some ⟨g, 0, none⟩) 0 0) := c2
  go_enter Tryz.func55, Tryz.ntmps55
  go_wp2
  go_region
  all_goals (go_wp2; go_ret; exact ⟨rfl, rfl⟩)
set_option maxHeartbeats 2000000 in
set_option maxRecDepth 100000 in
theorem bstr_room_55 : ∀ (b g cap : Nat) (w : World), cap ≠ 0 → w.cell? ⟨b, 1, none⟩ = some (.slice (some ⟨g, 0, none⟩) 0 cap) → Calls Tryz.prog 55 #[.pointer (some ⟨b, 0, none⟩)] w fun e w' => e = .returned (.string ⟨#[]⟩) ∧ w' = w.drew := by
  intro b g cap w hc0 c0
  have hUS : ∀ (W : World) (q : Option Addr), (Builtin.unsafeString_ #[125, 3] 9 #[.pointer q, .int .i64 0]).run Tryz.prog W = .ok (.string .empty) W := fun W q => Lib.run_unsafeString_none W _ _ _ q
  have c1 : w.drew.cell? ⟨b, 1, none⟩ = some (.slice (some ⟨g, 0, none⟩) 0 cap) := c0
  have hSD : (Builtin.unsafeSliceData_ #[29] 125 #[.slice (some ⟨g, 0, none⟩) 0 cap]).run Tryz.prog w.drew = .ok (.pointer (some ⟨g, 0, none⟩)) w.drew :=
    Lib.run_unsafeSliceData_row _ _ _ _ _ _ hc0
  clear hc0
  go_enter Tryz.func55, Tryz.ntmps55
  go_wp2
  go_region
  all_goals (go_wp2; go_ret; exact ⟨rfl, rfl⟩)
def acgStrings_Builder_WriteString_x : AC := (.seq (.ops [.asg 4 (kI 0), .asg 5 (.c .top)]) (.seq (.ops [.mv 6 0, .call (some 7) 103 [6]]) (.seq (.ops [.mv 8 0, .mv 9 0, .nck 10 9, .fa 11 1 10, .ld 12 1 false 11, .mv 13 1, .app 14 5 1 1 12 13, .nck 15 8, .fa 16 1 15, .st 1 16 14]) (.seq (.ops [.mv 17 1, .lns 18 17, .asg 4 18, .asg 5 (.c .top)]) .ret))))
theorem trgStrings_Builder_WriteString_x : trFn Tryz.prog 52 = some (acgStrings_Builder_WriteString_x, [.mv 0 4, .mv 0 5], 19) := by kernel_rfl
def qgStrings_Builder_WriteString_x (r : Int × (List Int)) : Exit → St → Prop := retQ [.mv 0 4, .mv 0 5] fun x b => x = (fun (y : Int × (List Int)) => (.tup [(vI y.1), .top])) r ∧ bxHas ((fun (y : Int × (List Int)) => [(1000000, [(.bp 1000000 74), (.osl 6000001 5 1 (y.2.map cU8))])]) r) b
set_option maxHeartbeats 2000000 in
set_option maxRecDepth 100000 in
theorem cc_used_103 : ∀ (b : Nat) (w : World), w.cell? ⟨b, 0, none⟩ = some (.pointer (some ⟨b, 0, none⟩)) → Calls Tryz.prog 103 #[.pointer (some ⟨b, 0, none⟩)] w fun e w' => e = .returned (.tuple #[]) ∧ w' = w := by
  intro b w h0
  go_enter Tryz.func103, Tryz.ntmps103
  go_wp2
  rw [Lib.run_neq_ptr_same w _ (show Tryz.prog.underlying 72 = some (.pointer 74) by kernel_rfl) (show Tryz.prog.info? 74 = some Tryz.t74 by kernel_rfl)]
  go_wp2
  go_end0
  exact ⟨rfl, rfl⟩
set_option maxHeartbeats 2000000 in
set_option maxRecDepth 100000 in
theorem cc_fresh_103_74 : ∀ (b : Nat) (w : World) (cs : Array Value), w.heap[b]? = some (.cells cs 74 (0, 0)) → cs.size = 2 → cs[0]? = some (.pointer none) →
    Calls Tryz.prog 103 #[.pointer (some ⟨b, 0, none⟩)] w fun e w' => e = .returned (.tuple #[]) ∧ w' = w.setCell ⟨b, 0, none⟩ (.pointer (some ⟨b, 0, none⟩)) := by
  intro b w cs hh hn hc
  have h0 : w.cell? ⟨b, 0, none⟩ = some (.pointer none) := by rw [cell_of_row w b 0 cs 74 (0, 0) hh]; exact hc
  have hsh : w.shape? b = some (74, 2) := by simp [World.shape?, hh, hn]
  have hfz : w.frozen? ⟨b, 0, none⟩ = false := by simp [World.frozen?, hh]
  go_enter Tryz.func103, Tryz.ntmps103
  go_wp2
  rw [Lib.run_to_unsafe w ⟨b, 0, none⟩ (show Tryz.prog.underlying 72 = some (.pointer 74) by kernel_rfl) (show Tryz.prog.underlying 137 = some (.unsafePointer) by kernel_rfl) (show Tryz.prog.info? 74 = some Tryz.t74 by kernel_rfl) (by decide +kernel) hsh (Nat.zero_lt_succ 1)]
  simp only [Result.andThen]
  rw [Oper.upon_value]
  go_wp2
  rw [run_callFunc_extern Tryz.func137 (by kernel_rfl) (by kernel_rfl) (by kernel_rfl) (e := Extern.AbiNoEscape.same) (by kernel_rfl)]
  rw [Lib.run_noEscape]
  simp only [Result.andThen]
  rw [Oper.upon_value]
  go_wp2
  rw [Lib.run_from_unsafe w ⟨b, 0, none⟩ (show Tryz.prog.underlying 137 = some (.unsafePointer) by kernel_rfl) (show Tryz.prog.underlying 72 = some (.pointer 74) by kernel_rfl) (show Tryz.prog.info? 74 = some Tryz.t74 by kernel_rfl) hsh (by kernel_rfl)]
  simp only [Result.andThen]
  rw [Oper.upon_value]
  go_wp2
  go_end0
  exact ⟨rfl, rfl⟩
def acgStrings_Builder_Len_x : AC := (.seq (.ops [.asg 2 (kI 0)]) (.seq (.ops [.mv 3 0, .nck 4 3, .fa 5 1 4, .ld 6 1 false 5, .len 7 6, .asg 2 7]) .ret))
theorem trgStrings_Builder_Len_x : trFn Tryz.prog 54 = some (acgStrings_Builder_Len_x, [.mv 0 2], 8) := by kernel_rfl
def qgStrings_Builder_Len_x (c0_1 : (List Int)) (r : Int) : Exit → St → Prop := retQ [.mv 0 2] fun x b => x = (fun (y : Int) => (vI y)) r ∧ bxHas ((fun (y : Int) => [(1000000, [(.bp 1000000 74), (.osl 6000001 5 1 (c0_1.map cU8))])]) r) b
def aciTokenText : AC := (.seq (.ops [.box 1 53 0, .asg 2 (.c (.d (.s (bs []))))]) (.seq (.seq (.ops [.ld 3 3 true 1, .call (some 4) 51 [3], .not 5 4]) (.cond 5 (.seq (.ops [.asg 2 (.c (.d (.s (bs []))))]) .ret) .skip)) (.seq (.seq (.ops [.fa 6 0 1, .ld 7 1 false 6]) (.block 0 (.seq (.ops [.bin 9 .eql 7 (kI 2), .asg 8 9]) (.cond 8 (.seq (.ops [.fa 10 1 1, .ld 11 1 false 10, .call (some 12) 104 [11], .asg 2 12]) .ret) (.seq (.ops [.bin 14 .eql 7 (kI 4), .asg 13 14]) (.cond 13 (.seq (.ops [.fa 15 1 1, .ld 16 1 false 15, .call (some 17) 105 [16], .asg 2 17]) .ret) .skip)))))) (.seq (.ops [.fa 18 1 1, .ld 19 1 false 18, .asg 2 19]) .ret))))
theorem triTokenText : trFn Tryz.prog 53 = some (aciTokenText, [.mv 0 2], 20) := by kernel_rfl
def qiTokenText (r : (List UInt8)) : Exit → St → Prop := retQ [.mv 0 2] fun x _ => x = (fun y => (vS y)) r
def aciQuoteText : AC := (.seq (.ops [.asg 2 (.c (.d (.s (bs []))))]) (.seq (.ops [.mv 3 0, .call (some 4) 138 [3, (.c (.d (.s (bs [39]))))], .asg 2 4]) .ret))
theorem triQuoteText : trFn Tryz.prog 105 = some (aciQuoteText, [.mv 0 2], 5) := by kernel_rfl
def qiQuoteText (r : (List UInt8)) : Exit → St → Prop := retQ [.mv 0 2] fun x _ => x = (fun y => (vS y)) r
def aciQuoted : AC := (.seq (.ops [.asg 4 (.c (.d (.s (bs []))))]) (.seq (.ops [.mv 5 1, .mv 6 0, .mv 7 1, .mv 8 1, .mv 9 1, .bin 10 .add 8 9, .call (some 11) 153 [6, 7, 10], .bin 12 .add 5 11, .mv 13 1, .bin 14 .add 12 13, .asg 4 14]) .ret))
theorem triQuoted : trFn Tryz.prog 138 = some (aciQuoted, [.mv 0 4], 15) := by kernel_rfl
def qiQuoted (r : (List UInt8)) : Exit → St → Prop := retQ [.mv 0 4] fun x _ => x = (fun y => (vS y)) r

def aciNameText : AC := (.seq (.ops [.asg 2 (.c (.d (.s (bs []))))]) (.seq (.block 0 (.seq (.ops [.mv 4 0, .call (some 5) 100 [4], .not 6 5, .asg 3 6]) (.cond 3 (.seq (.ops [.asg 2 (.c (.d (.s (bs []))))]) .ret) (.seq (.ops [.mv 8 0, .call (some 9) 106 [8], .asg 7 9]) (.cond 7 (.seq (.ops [.mv 10 0, .asg 2 10]) .ret) .skip))))) (.seq (.ops [.mv 11 0, .call (some 12) 138 [11, (.c (.d (.s (bs [34]))))], .asg 2 12]) .ret)))
theorem triNameText : trFn Tryz.prog 104 = some (aciNameText, [.mv 0 2], 13) := by kernel_rfl
def qiNameText (r : (List UInt8)) : Exit → St → Prop := retQ [.mv 0 2] fun x _ => x = (fun y => (vS y)) r
def aciCatalogOk_L0 : AC := (.loop (.seq (.ops [.bin 9 .lss 8 7]) (.seq (.cond 9 .skip (.exit 0)) (.seq (.block 1 (.seq (.ops [.mv 10 8, .ia 11 2 6 8, .ld 12 2 true 11, .alc 4 [(.d (.s (bs []))), (.nil 2)], .asg 3 10, .st 2 4 12]) (.seq (.ops [.ld 13 2 true 4, .call (some 14) 82 [13], .not 15 14, .mv 16 15, .g 16 false (.ld 17 1 true 1), .g 16 false (.fa 18 0 4), .g 16 false (.ld 19 1 false 18), .g 16 false (.call (some 20) 83 [17, 19]), .g 16 false (.mv 21 3), .g 16 false (.bin 22 .neq 20 21), .pick 23 16 (kB true) 22]) (.cond 23 (.seq (.ops [.asg 2 (kB false)]) .ret) .skip)))) (.ops [.bin 24 .add 8 (kI 1), .mv 8 24])))))
def aciCatalogOk : AC := (.seq (.ops [.box 1 44 0, .asg 2 (kB false)]) (.seq (.seq (.ops [.fa 5 0 1, .ld 6 1 false 5, .len 7 6, .mv 8 (kI 0)]) (.block 0 aciCatalogOk_L0)) (.seq (.ops [.fa 25 0 1, .ld 26 1 false 25, .len 27 26, .bin 28 .leq 27 (kI 4), .asg 2 28]) .ret)))
theorem triCatalogOk : trFn Tryz.prog 44 = some (aciCatalogOk, [.mv 0 2], 29) := by kernel_rfl
def qiCatalogOk (r : Bool) : Exit → St → Prop := retQ [.mv 0 2] fun x _ => x = (fun y => (vB y)) r
def qiCatalogOk_0 (r : Bool) : Exit → St → Prop := (thenK (wkK (avc Tryz.prog (.seq (.ops [.fa 25 0 1, .ld 26 1 false 25, .len 27 26, .bin 28 .leq 27 (.c (.d (.i .i64 4))), .asg 2 28]) .ret) (qiCatalogOk r))) (qiCatalogOk r))
def qiCatalogOk_1 (r : Bool) : Exit → St → Prop := (blockK 0 (qiCatalogOk_0 r))
def stiCatalogOk_L0 (p0 : GCatalog) (x8 : Int) : St := ⟨[(1, (.ptr 1 0)), (6, (.d (.sl 2 (p0.tables.map cGTable)))), (7, (vI (p0.tables.length : Int))), (8, (vI x8))], [(1, bGCatalog p0)]⟩
def aciTableAt : AC := (.seq (.ops [.box 2 44 0, .box 3 9 1, .asg 4 (kI 0)]) (.seq (.ops [.fa 5 0 2, .ld 6 1 false 5, .mkf 7 124 [3], .call (some 8) 123 [6, 7], .asg 4 8]) .ret))
theorem triTableAt : trFn Tryz.prog 83 = some (aciTableAt, [.mv 0 4], 9) := by kernel_rfl
def qiTableAt (r : Int) : Exit → St → Prop := retQ [.mv 0 4] fun x _ => x = (fun y => (vI y)) r
def acgSlices_IndexFunc_Simpl_Table_impl_Table_iTableAt_1_L0 : AC := (.loop (.seq (.ops [.bin 9 .lss 8 7]) (.seq (.cond 9 .skip (.exit 0)) (.seq (.block 1 (.seq (.ops [.mv 10 8, .asg 5 10]) (.seq (.ops [.mv 11 1, .mv 12 0, .mv 13 5, .ia 14 2 12 13, .ld 15 2 true 14, .callv (some 16) 11 [15]]) (.cond 16 (.seq (.ops [.mv 17 5, .asg 4 17]) .ret) .skip)))) (.ops [.bin 18 .add 8 (kI 1), .mv 8 18])))))
def acgSlices_IndexFunc_Simpl_Table_impl_Table_iTableAt_1 : AC := (.seq (.ops [.asg 4 (kI 0)]) (.seq (.seq (.ops [.mv 6 0, .len 7 6, .mv 8 (kI 0)]) (.block 0 acgSlices_IndexFunc_Simpl_Table_impl_Table_iTableAt_1_L0)) (.seq (.ops [.asg 4 (kI (-1))]) .ret)))
theorem trgSlices_IndexFunc_Simpl_Table_impl_Table_iTableAt_1 : trFn Tryz.prog 123 = some (acgSlices_IndexFunc_Simpl_Table_impl_Table_iTableAt_1, [.mv 0 4], 19) := by kernel_rfl
def qgSlices_IndexFunc_Simpl_Table_impl_Table_iTableAt_1 (c0_0 : (List UInt8)) (r : Int) : Exit → St → Prop := retQ [.mv 0 4] fun x b => x = (fun (y : Int) => (vI y)) r ∧ bxHas ((fun (y : Int) => [(1000000, [(vS c0_0)])]) r) b
def qgSlices_IndexFunc_Simpl_Table_impl_Table_iTableAt_1_0 (c0_0 : (List UInt8)) (r : Int) : Exit → St → Prop := (thenK (wkK (avc Tryz.prog (.seq (.ops [.asg 4 (.c (.d (.i .i64 (-1))))]) .ret) (qgSlices_IndexFunc_Simpl_Table_impl_Table_iTableAt_1 c0_0 r))) (qgSlices_IndexFunc_Simpl_Table_impl_Table_iTableAt_1 c0_0 r))
def qgSlices_IndexFunc_Simpl_Table_impl_Table_iTableAt_1_1 (c0_0 : (List UInt8)) (r : Int) : Exit → St → Prop := (blockK 0 (qgSlices_IndexFunc_Simpl_Table_impl_Table_iTableAt_1_0 c0_0 r))
def stgSlices_IndexFunc_Simpl_Table_impl_Table_iTableAt_1_L0 (p0 : (List GTable)) (c0_0 : (List UInt8)) (x8 : Int) : St := ⟨[(0, (.d (.sl 2 (p0.map cGTable)))), (1, (.fn 124 [(.ptr 1000000 0)])), (7, (vI (p0.length : Int))), (8, (vI x8))], [(1000000, [(vS c0_0)])]⟩
def aciTableAt_1_x : AC := (.seq (.ops [.box 2 106 0, .asg 3 (kB false)]) (.seq (.ops [.fa 4 0 2, .ld 5 1 false 4, .ld 6 1 false 1, .bin 7 .eql 5 6, .asg 3 7]) .ret))
theorem triTableAt_1_x : trFn Tryz.prog 124 = some (aciTableAt_1_x, [.mv 0 3], 8) := by kernel_rfl
def qiTableAt_1_x (c0_0 : (List UInt8)) (r : Bool) : Exit → St → Prop := retQ [.mv 0 3] fun x b => x = (fun (y : Bool) => (vB y)) r ∧ bxHas ((fun (y : Bool) => [(1000000, [(vS c0_0)])]) r) b
def aciIsTable_L0 : AC := (.loop (.seq (.ops [.bin 9 .lss 8 7]) (.seq (.cond 9 .skip (.exit 0)) (.seq (.block 1 (.seq (.ops [.mv 10 8, .ia 11 2 6 8, .ld 12 2 true 11, .alc 4 [(.d (.s (bs []))), (.d (.i .i64 0))], .asg 3 10, .st 2 4 12]) (.seq (.ops [.fa 13 0 4, .ld 14 1 false 13, .call (some 15) 100 [14], .not 16 15, .mv 17 16, .g 17 false (.fa 18 1 4), .g 17 false (.ld 19 1 false 18), .g 17 false (.bin 20 .lss 19 (kI 1)), .pick 21 17 (kB true) 20, .mv 22 21, .g 22 false (.fa 23 1 4), .g 22 false (.ld 24 1 false 23), .g 22 false (.bin 25 .gtr 24 (kI 3)), .pick 26 22 (kB true) 25, .mv 27 26, .g 27 false (.ld 28 2 true 1), .g 27 false (.fa 29 0 4), .g 27 false (.ld 30 1 false 29), .g 27 false (.call (some 31) 122 [28, 30]), .g 27 false (.mv 32 3), .g 27 false (.bin 33 .neq 31 32), .pick 34 27 (kB true) 33]) (.cond 34 (.seq (.ops [.asg 2 (kB false)]) .ret) .skip)))) (.ops [.bin 35 .add 8 (kI 1), .mv 8 35])))))
def aciIsTable : AC := (.seq (.ops [.box 1 106 0, .asg 2 (kB false)]) (.seq (.seq (.ops [.fa 5 1 1, .ld 6 1 false 5, .len 7 6, .mv 8 (kI 0)]) (.block 0 aciIsTable_L0)) (.seq (.ops [.fa 36 0 1, .ld 37 1 false 36, .call (some 38) 100 [37], .mv 39 38, .g 39 true (.fa 40 1 1), .g 39 true (.ld 41 1 false 40), .g 39 true (.len 42 41), .g 39 true (.bin 43 .geq 42 (kI 1)), .pick 44 39 43 (kB false), .mv 45 44, .g 45 true (.fa 46 1 1), .g 45 true (.ld 47 1 false 46), .g 45 true (.len 48 47), .g 45 true (.bin 49 .leq 48 (kI 4)), .pick 50 45 49 (kB false), .asg 2 50]) .ret)))
theorem triIsTable : trFn Tryz.prog 82 = some (aciIsTable, [.mv 0 2], 51) := by kernel_rfl
def qiIsTable (r : Bool) : Exit → St → Prop := retQ [.mv 0 2] fun x _ => x = (fun y => (vB y)) r
def qiIsTable_0 (r : Bool) : Exit → St → Prop := (thenK (wkK (avc Tryz.prog (.seq (.ops [.fa 36 0 1, .ld 37 1 false 36, .call (some 38) 100 [37], .mv 39 38, .g 39 true (.fa 40 1 1), .g 39 true (.ld 41 1 false 40), .g 39 true (.len 42 41), .g 39 true (.bin 43 .geq 42 (.c (.d (.i .i64 1)))), .pick 44 39 43 (.c (.d (.b false))), .mv 45 44, .g 45 true (.fa 46 1 1), .g 45 true (.ld 47 1 false 46), .g 45 true (.len 48 47), .g 45 true (.bin 49 .leq 48 (.c (.d (.i .i64 4)))), .pick 50 45 49 (.c (.d (.b false))), .asg 2 50]) .ret) (qiIsTable r))) (qiIsTable r))
def qiIsTable_1 (r : Bool) : Exit → St → Prop := (blockK 0 (qiIsTable_0 r))
def stiIsTable_L0 (p0 : GTable) (x8 : Int) : St := ⟨[(1, (.ptr 1 0)), (6, (.d (.sl 2 (p0.cols.map cGCol)))), (7, (vI (p0.cols.length : Int))), (8, (vI x8))], [(1, bGTable p0)]⟩
def aciColAt : AC := (.seq (.ops [.box 2 106 0, .box 3 9 1, .asg 4 (kI 0)]) (.seq (.ops [.fa 5 1 2, .ld 6 1 false 5, .mkf 7 148 [3], .call (some 8) 147 [6, 7], .asg 4 8]) .ret))
theorem triColAt : trFn Tryz.prog 122 = some (aciColAt, [.mv 0 4], 9) := by kernel_rfl
def qiColAt (r : Int) : Exit → St → Prop := retQ [.mv 0 4] fun x _ => x = (fun y => (vI y)) r
def acgSlices_IndexFunc_Simpl_Col_impl_Col_iColAt_1_L0 : AC := (.loop (.seq (.ops [.bin 9 .lss 8 7]) (.seq (.cond 9 .skip (.exit 0)) (.seq (.block 1 (.seq (.ops [.mv 10 8, .asg 5 10]) (.seq (.ops [.mv 11 1, .mv 12 0, .mv 13 5, .ia 14 2 12 13, .ld 15 2 true 14, .callv (some 16) 11 [15]]) (.cond 16 (.seq (.ops [.mv 17 5, .asg 4 17]) .ret) .skip)))) (.ops [.bin 18 .add 8 (kI 1), .mv 8 18])))))
def acgSlices_IndexFunc_Simpl_Col_impl_Col_iColAt_1 : AC := (.seq (.ops [.asg 4 (kI 0)]) (.seq (.seq (.ops [.mv 6 0, .len 7 6, .mv 8 (kI 0)]) (.block 0 acgSlices_IndexFunc_Simpl_Col_impl_Col_iColAt_1_L0)) (.seq (.ops [.asg 4 (kI (-1))]) .ret)))
theorem trgSlices_IndexFunc_Simpl_Col_impl_Col_iColAt_1 : trFn Tryz.prog 147 = some (acgSlices_IndexFunc_Simpl_Col_impl_Col_iColAt_1, [.mv 0 4], 19) := by kernel_rfl
def qgSlices_IndexFunc_Simpl_Col_impl_Col_iColAt_1 (c0_0 : (List UInt8)) (r : Int) : Exit → St → Prop := retQ [.mv 0 4] fun x b => x = (fun (y : Int) => (vI y)) r ∧ bxHas ((fun (y : Int) => [(1000000, [(vS c0_0)])]) r) b
def qgSlices_IndexFunc_Simpl_Col_impl_Col_iColAt_1_0 (c0_0 : (List UInt8)) (r : Int) : Exit → St → Prop := (thenK (wkK (avc Tryz.prog (.seq (.ops [.asg 4 (.c (.d (.i .i64 (-1))))]) .ret) (qgSlices_IndexFunc_Simpl_Col_impl_Col_iColAt_1 c0_0 r))) (qgSlices_IndexFunc_Simpl_Col_impl_Col_iColAt_1 c0_0 r))
def qgSlices_IndexFunc_Simpl_Col_impl_Col_iColAt_1_1 (c0_0 : (List UInt8)) (r : Int) : Exit → St → Prop := (blockK 0 (qgSlices_IndexFunc_Simpl_Col_impl_Col_iColAt_1_0 c0_0 r))
def stgSlices_IndexFunc_Simpl_Col_impl_Col_iColAt_1_L0 (p0 : (List GCol)) (c0_0 : (List UInt8)) (x8 : Int) : St := ⟨[(0, (.d (.sl 2 (p0.map cGCol)))), (1, (.fn 148 [(.ptr 1000000 0)])), (7, (vI (p0.length : Int))), (8, (vI x8))], [(1000000, [(vS c0_0)])]⟩
def aciColAt_1_x : AC := (.seq (.ops [.box 2 110 0, .asg 3 (kB false)]) (.seq (.ops [.fa 4 0 2, .ld 5 1 false 4, .ld 6 1 false 1, .bin 7 .eql 5 6, .asg 3 7]) .ret))
theorem triColAt_1_x : trFn Tryz.prog 148 = some (aciColAt_1_x, [.mv 0 3], 8) := by kernel_rfl
def qiColAt_1_x (c0_0 : (List UInt8)) (r : Bool) : Exit → St → Prop := retQ [.mv 0 3] fun x b => x = (fun (y : Bool) => (vB y)) r ∧ bxHas ((fun (y : Bool) => [(1000000, [(vS c0_0)])]) r) b
def acwSzCatalog : AC := (.seq (.ops [.box 2 39 0, .asg 4 (kI 0)]) (.seq (.ops [.fa 5 0 2, .ld 6 1 false 5, .mv 7 1, .call (some 8) 40 [6, 7], .asg 1 8]) (.seq (.seq (.ops [.mv 9 1, .bin 10 .lss 9 (kI 0)]) (.cond 10 (.seq (.ops [.asg 4 (kI (-1))]) .ret) .skip)) (.seq (.ops [.mv 11 1, .asg 4 11]) .ret))))
theorem trwSzCatalog : trFn Tryz.prog 22 = some (acwSzCatalog, [.mv 0 4], 12) := by kernel_rfl
def qwSzCatalog (r : Int) : Exit → St → Prop := retQ [.mv 0 4] fun x _ => x = (fun y => (vI y)) r
def acwSzTableS_L0 : AC := (.loop (.seq (.seq (.ops [.mv 12 5, .mv 13 0, .len 14 13, .bin 15 .lss 12 14]) (.cond 15 .skip (.exit 0))) (.seq (.block 1 (.seq (.ops [.mv 18 0, .mv 19 5, .ia 20 2 18 19, .ld 21 2 true 20, .mv 22 1, .call (some 23) 73 [21, 22], .asg 1 23]) (.seq (.ops [.mv 24 1, .bin 25 .lss 24 (kI 0)]) (.cond 25 (.seq (.ops [.asg 4 (kI (-1))]) .ret) .skip)))) (.ops [.mv 16 5, .bin 17 .add 16 (kI 1), .asg 5 17]))))
def acwSzTableS : AC := (.seq (.ops [.asg 4 (kI 0)]) (.seq (.ops [.mv 6 1, .mv 7 0, .len 8 7, .bin 9 .sub 6 8, .asg 1 9]) (.seq (.seq (.ops [.mv 10 1, .bin 11 .lss 10 (kI 0)]) (.cond 11 (.seq (.ops [.asg 4 (kI (-1))]) .ret) .skip)) (.seq (.seq (.ops [.asg 5 (kI 0)]) (.block 0 acwSzTableS_L0)) (.seq (.ops [.mv 26 1, .asg 4 26]) .ret)))))
theorem trwSzTableS : trFn Tryz.prog 40 = some (acwSzTableS, [.mv 0 4], 27) := by kernel_rfl
def qwSzTableS (r : Int) : Exit → St → Prop := retQ [.mv 0 4] fun x _ => x = (fun y => (vI y)) r
def qwSzTableS_0 (r : Int) : Exit → St → Prop := (thenK (wkK (avc Tryz.prog (.seq (.ops [.mv 26 1, .asg 4 26]) .ret) (qwSzTableS r))) (qwSzTableS r))
def qwSzTableS_1 (r : Int) : Exit → St → Prop := (blockK 0 (qwSzTableS_0 r))
def stwSzTableS_L0 (p0 : (List GTable)) (x1 : Int) (x5 : Int) : St := ⟨[(0, (.d (.sl 2 (p0.map cGTable)))), (1, (vI x1)), (5, (vI x5))], []⟩
def acwSzTable : AC := (.seq (.ops [.box 2 103 0, .asg 4 (kI 0)]) (.seq (.ops [.mv 5 1, .fa 6 0 2, .ld 7 1 false 6, .lns 8 7, .bin 9 .sub 5 8, .asg 1 9]) (.seq (.seq (.ops [.mv 10 1, .bin 11 .lss 10 (kI 0)]) (.cond 11 (.seq (.ops [.asg 4 (kI (-1))]) .ret) .skip)) (.seq (.ops [.fa 12 1 2, .ld 13 1 false 12, .mv 14 1, .call (some 15) 120 [13, 14], .asg 1 15]) (.seq (.seq (.ops [.mv 16 1, .bin 17 .lss 16 (kI 0)]) (.cond 17 (.seq (.ops [.asg 4 (kI (-1))]) .ret) .skip)) (.seq (.ops [.mv 18 1, .asg 4 18]) .ret))))))
theorem trwSzTable : trFn Tryz.prog 73 = some (acwSzTable, [.mv 0 4], 19) := by kernel_rfl
def qwSzTable (r : Int) : Exit → St → Prop := retQ [.mv 0 4] fun x _ => x = (fun y => (vI y)) r
def acwSzColS_L0 : AC := (.loop (.seq (.seq (.ops [.mv 12 5, .mv 13 0, .len 14 13, .bin 15 .lss 12 14]) (.cond 15 .skip (.exit 0))) (.seq (.block 1 (.seq (.ops [.mv 18 0, .mv 19 5, .ia 20 2 18 19, .ld 21 2 true 20, .mv 22 1, .call (some 23) 145 [21, 22], .asg 1 23]) (.seq (.ops [.mv 24 1, .bin 25 .lss 24 (kI 0)]) (.cond 25 (.seq (.ops [.asg 4 (kI (-1))]) .ret) .skip)))) (.ops [.mv 16 5, .bin 17 .add 16 (kI 1), .asg 5 17]))))
def acwSzColS : AC := (.seq (.ops [.asg 4 (kI 0)]) (.seq (.ops [.mv 6 1, .mv 7 0, .len 8 7, .bin 9 .sub 6 8, .asg 1 9]) (.seq (.seq (.ops [.mv 10 1, .bin 11 .lss 10 (kI 0)]) (.cond 11 (.seq (.ops [.asg 4 (kI (-1))]) .ret) .skip)) (.seq (.seq (.ops [.asg 5 (kI 0)]) (.block 0 acwSzColS_L0)) (.seq (.ops [.mv 26 1, .asg 4 26]) .ret)))))
theorem trwSzColS : trFn Tryz.prog 120 = some (acwSzColS, [.mv 0 4], 27) := by kernel_rfl
def qwSzColS (r : Int) : Exit → St → Prop := retQ [.mv 0 4] fun x _ => x = (fun y => (vI y)) r
def qwSzColS_0 (r : Int) : Exit → St → Prop := (thenK (wkK (avc Tryz.prog (.seq (.ops [.mv 26 1, .asg 4 26]) .ret) (qwSzColS r))) (qwSzColS r))
def qwSzColS_1 (r : Int) : Exit → St → Prop := (blockK 0 (qwSzColS_0 r))
def stwSzColS_L0 (p0 : (List GCol)) (x1 : Int) (x5 : Int) : St := ⟨[(0, (.d (.sl 2 (p0.map cGCol)))), (1, (vI x1)), (5, (vI x5))], []⟩
def acwSzCol : AC := (.seq (.ops [.box 2 146 0, .asg 4 (kI 0)]) (.seq (.ops [.mv 5 1, .fa 6 0 2, .ld 7 1 false 6, .lns 8 7, .bin 9 .sub 5 8, .asg 1 9]) (.seq (.seq (.ops [.mv 10 1, .bin 11 .lss 10 (kI 0)]) (.cond 11 (.seq (.ops [.asg 4 (kI (-1))]) .ret) .skip)) (.seq (.ops [.mv 12 1, .asg 4 12]) .ret))))
theorem trwSzCol : trFn Tryz.prog 145 = some (acwSzCol, [.mv 0 4], 13) := by kernel_rfl
def qwSzCol (r : Int) : Exit → St → Prop := retQ [.mv 0 4] fun x _ => x = (fun y => (vI y)) r
def acwEqCatalog : AC := (.seq (.ops [.box 2 44 0, .box 3 44 1, .asg 4 (kB false)]) (.seq (.seq (.ops [.fa 5 0 2, .ld 6 1 false 5, .fa 7 0 3, .ld 8 1 false 7, .call (some 9) 46 [6, 8], .not 10 9]) (.cond 10 (.seq (.ops [.asg 4 (kB false)]) .ret) .skip)) (.seq (.ops [.asg 4 (kB true)]) .ret)))
theorem trwEqCatalog : trFn Tryz.prog 26 = some (acwEqCatalog, [.mv 0 4], 11) := by kernel_rfl
def qwEqCatalog (r : Bool) : Exit → St → Prop := retQ [.mv 0 4] fun x _ => x = (fun y => (vB y)) r
def acwEqTableS_L0 : AC := (.loop (.seq (.seq (.ops [.mv 11 5, .mv 12 0, .len 13 12, .bin 14 .lss 11 13]) (.cond 14 .skip (.exit 0))) (.seq (.block 1 (.seq (.dops [[], [], [0, 1], [2], [], [], [4, 5], [6], [3, 7], [8]] [.mv 17 0, .mv 18 5, .ia 19 2 17 18, .ld 20 2 true 19, .mv 21 1, .mv 22 5, .ia 23 2 21 22, .ld 24 2 true 23, .call (some 25) 88 [20, 24], .not 26 25]) (.cond 26 (.seq (.ops [.asg 4 (kB false)]) .ret) .skip))) (.ops [.mv 15 5, .bin 16 .add 15 (kI 1), .asg 5 16]))))
def acwEqTableS : AC := (.seq (.ops [.asg 4 (kB false)]) (.seq (.seq (.ops [.mv 6 0, .len 7 6, .mv 8 1, .len 9 8, .bin 10 .neq 7 9]) (.cond 10 (.seq (.ops [.asg 4 (kB false)]) .ret) .skip)) (.seq (.seq (.ops [.asg 5 (kI 0)]) (.block 0 acwEqTableS_L0)) (.seq (.ops [.asg 4 (kB true)]) .ret))))
theorem trwEqTableS : trFn Tryz.prog 46 = some (acwEqTableS, [.mv 0 4], 27) := by kernel_rfl
def qwEqTableS (r : Bool) : Exit → St → Prop := retQ [.mv 0 4] fun x _ => x = (fun y => (vB y)) r
def qwEqTableS_0 (r : Bool) : Exit → St → Prop := (thenK (wkK (avc Tryz.prog (.seq (.ops [.asg 4 (.c (.d (.b true)))]) .ret) (qwEqTableS r))) (qwEqTableS r))
def qwEqTableS_1 (r : Bool) : Exit → St → Prop := (blockK 0 (qwEqTableS_0 r))
def stwEqTableS_L0 (p0 : (List GTable)) (p1 : (List GTable)) (x5 : Int) : St := ⟨[(0, (.d (.sl 2 (p0.map cGTable)))), (1, (.d (.sl 2 (p1.map cGTable)))), (5, (vI x5))], []⟩
def acwEqTable : AC := (.seq (.ops [.box 2 106 0, .box 3 106 1, .asg 4 (kB false)]) (.seq (.seq (.ops [.fa 5 0 2, .ld 6 1 false 5, .fa 7 0 3, .ld 8 1 false 7, .bin 9 .neq 6 8]) (.cond 9 (.seq (.ops [.asg 4 (kB false)]) .ret) .skip)) (.seq (.seq (.ops [.fa 10 1 2, .ld 11 1 false 10, .fa 12 1 3, .ld 13 1 false 12, .call (some 14) 126 [11, 13], .not 15 14]) (.cond 15 (.seq (.ops [.asg 4 (kB false)]) .ret) .skip)) (.seq (.ops [.asg 4 (kB true)]) .ret))))
theorem trwEqTable : trFn Tryz.prog 88 = some (acwEqTable, [.mv 0 4], 16) := by kernel_rfl
def qwEqTable (r : Bool) : Exit → St → Prop := retQ [.mv 0 4] fun x _ => x = (fun y => (vB y)) r
def acwEqColS_L0 : AC := (.loop (.seq (.seq (.ops [.mv 11 5, .mv 12 0, .len 13 12, .bin 14 .lss 11 13]) (.cond 14 .skip (.exit 0))) (.seq (.block 1 (.seq (.dops [[], [], [0, 1], [2], [], [], [4, 5], [6], [3, 7], [8]] [.mv 17 0, .mv 18 5, .ia 19 2 17 18, .ld 20 2 true 19, .mv 21 1, .mv 22 5, .ia 23 2 21 22, .ld 24 2 true 23, .call (some 25) 149 [20, 24], .not 26 25]) (.cond 26 (.seq (.ops [.asg 4 (kB false)]) .ret) .skip))) (.ops [.mv 15 5, .bin 16 .add 15 (kI 1), .asg 5 16]))))
def acwEqColS : AC := (.seq (.ops [.asg 4 (kB false)]) (.seq (.seq (.ops [.mv 6 0, .len 7 6, .mv 8 1, .len 9 8, .bin 10 .neq 7 9]) (.cond 10 (.seq (.ops [.asg 4 (kB false)]) .ret) .skip)) (.seq (.seq (.ops [.asg 5 (kI 0)]) (.block 0 acwEqColS_L0)) (.seq (.ops [.asg 4 (kB true)]) .ret))))
theorem trwEqColS : trFn Tryz.prog 126 = some (acwEqColS, [.mv 0 4], 27) := by kernel_rfl
def qwEqColS (r : Bool) : Exit → St → Prop := retQ [.mv 0 4] fun x _ => x = (fun y => (vB y)) r
def qwEqColS_0 (r : Bool) : Exit → St → Prop := (thenK (wkK (avc Tryz.prog (.seq (.ops [.asg 4 (.c (.d (.b true)))]) .ret) (qwEqColS r))) (qwEqColS r))
def qwEqColS_1 (r : Bool) : Exit → St → Prop := (blockK 0 (qwEqColS_0 r))
def stwEqColS_L0 (p0 : (List GCol)) (p1 : (List GCol)) (x5 : Int) : St := ⟨[(0, (.d (.sl 2 (p0.map cGCol)))), (1, (.d (.sl 2 (p1.map cGCol)))), (5, (vI x5))], []⟩
def acwEqCol : AC := (.seq (.ops [.box 2 110 0, .box 3 110 1, .asg 4 (kB false)]) (.seq (.seq (.ops [.fa 5 0 2, .ld 6 1 false 5, .fa 7 0 3, .ld 8 1 false 7, .bin 9 .neq 6 8]) (.cond 9 (.seq (.ops [.asg 4 (kB false)]) .ret) .skip)) (.seq (.seq (.ops [.fa 10 1 2, .ld 11 1 false 10, .fa 12 1 3, .ld 13 1 false 12, .bin 14 .neq 11 13]) (.cond 14 (.seq (.ops [.asg 4 (kB false)]) .ret) .skip)) (.seq (.ops [.asg 4 (kB true)]) .ret))))
theorem trwEqCol : trFn Tryz.prog 149 = some (acwEqCol, [.mv 0 4], 15) := by kernel_rfl
def qwEqCol (r : Bool) : Exit → St → Prop := retQ [.mv 0 4] fun x _ => x = (fun y => (vB y)) r
theorem koGCol (x : GCol) (h : ∀ d ∈ cGCol x, OkD d) : okGCol x := ⟨ko_s _ (ko_sub h 0 1), ko_i _ (ko_sub h 1 1)⟩
theorem koGTable (x : GTable) (h : ∀ d ∈ cGTable x, OkD d) : okGTable x := ⟨ko_s _ (ko_sub h 0 1), ko_l _ (fun y hy => koGCol y hy) (ko_sub h 1 1)⟩
theorem koGCatalog (x : GCatalog) (h : ∀ d ∈ cGCatalog x, OkD d) : okGCatalog x := ko_l _ (fun y hy => koGTable y hy) (ko_sub h 0 1)
theorem koGToken (x : GToken) (h : ∀ d ∈ cGToken x, OkD d) : okGToken x := ⟨ko_i _ (ko_sub h 0 1), ko_s _ (ko_sub h 1 1), ko_i _ (ko_sub h 2 1)⟩
theorem koGPrinter (x : GPrinter) (h : ∀ d ∈ cGPrinter x, OkD d) : okGPrinter x := ⟨ko_l _ (fun y hy => koGToken y hy) (ko_sub h 0 1), trivial⟩
theorem de9 {l : List D} (h : WtC Tryz.prog 9 l) : ∃ x : (List UInt8), l = cStr x := (wt_s h (by kernel_rfl))
theorem de3 {l : List D} (h : WtC Tryz.prog 3 l) : ∃ x : Int, l = cI x := (wt_i h (k := .i64) (by kernel_rfl))
theorem de146 {l : List D} (h : WtC Tryz.prog 146 l) : ∃ x : GCol, l = cGCol x := by
  obtain ⟨x0, e0⟩ := de9 (wt_fld h 0 (off := 0) (n := 1) (by kernel_rfl))
  obtain ⟨x1, e1⟩ := de3 (wt_fld h 1 (off := 1) (n := 1) (by kernel_rfl))
  exact ⟨⟨x0, x1⟩, (dr1 (m := 1) (by kernel_rfl) e0 (dr1 (m := 2) (by kernel_rfl) e1 (dr0 (wt_len h (n := 2) (by kernel_rfl)))))⟩
theorem de101 {l : List D} (h : WtC Tryz.prog 101 l) : ∃ x : (List GCol), l = (cSl 2 cGCol) x := (wt_sl h (e := 146) (n := 2) (c := cGCol) (by kernel_rfl) (by kernel_rfl) fun x hx => de146 hx)
theorem de103 {l : List D} (h : WtC Tryz.prog 103 l) : ∃ x : GTable, l = cGTable x := by
  obtain ⟨x0, e0⟩ := de9 (wt_fld h 0 (off := 0) (n := 1) (by kernel_rfl))
  obtain ⟨x1, e1⟩ := de101 (wt_fld h 1 (off := 1) (n := 1) (by kernel_rfl))
  exact ⟨⟨x0, x1⟩, (dr1 (m := 1) (by kernel_rfl) e0 (dr1 (m := 2) (by kernel_rfl) e1 (dr0 (wt_len h (n := 2) (by kernel_rfl)))))⟩
theorem de37 {l : List D} (h : WtC Tryz.prog 37 l) : ∃ x : (List GTable), l = (cSl 2 cGTable) x := (wt_sl h (e := 103) (n := 2) (c := cGTable) (by kernel_rfl) (by kernel_rfl) fun x hx => de103 hx)
theorem de39 {l : List D} (h : WtC Tryz.prog 39 l) : ∃ x : GCatalog, l = cGCatalog x := by
  obtain ⟨x0, e0⟩ := de37 (wt_fld h 0 (off := 0) (n := 1) (by kernel_rfl))
  exact ⟨⟨x0⟩, (dr1 (m := 1) (by kernel_rfl) e0 (dr0 (wt_len h (n := 1) (by kernel_rfl))))⟩
theorem OK_iColAt_1_x (p0 : GCol) (c0_0 : (List UInt8)) : FOkB Tryz.prog 148 [(vGCol p0), (.ptr 1000000 0)] [(1000000, [(vS c0_0)])] (fun (y : Bool) => (vB y)) (fun (y : Bool) => [(1000000, [(vS c0_0)])]) (iColAt_1_x p0 c0_0) := by
 intro r h
 rw [iColAt_1_x] at h
 refine acalls_of_fn triColAt_1_x (Nat.le_of_ble_eq_true rfl) (by intro n hn; simp at hn; simp only [NX]; omega) ?_
 show avc Tryz.prog aciColAt_1_x (qiColAt_1_x c0_0 _) ⟨[(0, (vGCol p0)), (1, (.ptr 1000000 0))], [(1000000, [(vS c0_0)])]⟩
 delta aciColAt_1_x
 refine so ?_
 let a0 : St := ⟨[(3, (vB false)), (2, (.ptr 2 0)), (0, (vGCol p0)), (1, (.ptr 1000000 0))], [(2, bGCol p0), (1000000, [(vS c0_0)])]⟩
 refine st 2 a0 (nx (so ?_))
 let a1 : St := a0.p [(3, (vB (decide (p0.name = c0_0)))), (7, (vB (decide (p0.name = c0_0)))), (6, (vS c0_0)), (5, (vS p0.name)), (4, (.ptr 2 0))]
 refine st 5 a1 (nx (ri ?_))
 injection h with h; subst h
 exact ret1_step (v := (vB (decide (p0.name = c0_0)))) (by kernel_rfl) (by kernel_rfl) ⟨by kernel_rfl, by kernel_rfl, trivial⟩
theorem OKs_gSlices_IndexFunc_Simpl_Col_impl_Col_iColAt_1_L0 (p0 : (List GCol)) (c0_0 : (List UInt8)) : (∀ (x8 : Int) (r : Int), gSlices_IndexFunc_Simpl_Col_impl_Col_iColAt_1_L0 p0 c0_0 x8 = some r → avc Tryz.prog acgSlices_IndexFunc_Simpl_Col_impl_Col_iColAt_1_L0 (qgSlices_IndexFunc_Simpl_Col_impl_Col_iColAt_1_1 c0_0 r) (stgSlices_IndexFunc_Simpl_Col_impl_Col_iColAt_1_L0 p0 c0_0 x8)) := by
 refine gSlices_IndexFunc_Simpl_Col_impl_Col_iColAt_1_L0.partial_correctness p0 c0_0 (fun x8 r => avc Tryz.prog acgSlices_IndexFunc_Simpl_Col_impl_Col_iColAt_1_L0 (qgSlices_IndexFunc_Simpl_Col_impl_Col_iColAt_1_1 c0_0 r) (stgSlices_IndexFunc_Simpl_Col_impl_Col_iColAt_1_L0 p0 c0_0 x8)) ?_
 · intro F_gSlices_IndexFunc_Simpl_Col_impl_Col_iColAt_1_L0 OK_gSlices_IndexFunc_Simpl_Col_impl_Col_iColAt_1_L0 x8 r h
   delta acgSlices_IndexFunc_Simpl_Col_impl_Col_iColAt_1_L0
   refine loop_unroll (so ?_)
   let a3 : St := (stgSlices_IndexFunc_Simpl_Col_impl_Col_iColAt_1_L0 p0 c0_0 x8).p [(9, (vB (decide (x8 < (ln p0)))))]
   refine st 1 a3 (nx (si ?_))
   refine cd h (fun h => ?_) fun h => ?_
   refine ki (xi (si (bi (so ?_))))
   let a4 : St := a3.p [(5, (vI x8)), (10, (vI x8))]
   refine st 2 a4 (nx (so ?_))
   let a5 : St := a4.p [(13, (vI x8)), (12, (.d (.sl 2 (p0.map cGCol)))), (11, (.fn 148 [(.ptr 1000000 0)]))]
   refine st 3 a5 (vs (fun (y : GCol) => (.rp (cGCol y))) h (fun y hy => via (l := p0) (f := cGCol) (g := cGCol) (k := .i64) hy (fun _ => rfl)) fun y1 h => ?_)
   let a6 : St := a5.p [(15, (vGCol y1)), (14, (.rp (cGCol y1)))]
   refine st 1 a6 (callvg_step ⟨[(1000000, 1000000)], [], [], [], [], [], [], [], []⟩ (m := iColAt_1_x y1 c0_0) (caps := [(.ptr 1000000 0)]) (S' := fun (y : Bool) => ⟨(16, (vB y)) :: a6.env, [(1000000, [(vS c0_0)])]⟩) h (OK_iColAt_1_x y1 c0_0) (by kernel_rfl) (by kernel_rfl) (by kernel_rfl) (by kernel_rfl) (by kernel_rfl) (by kernel_rfl) (fun y => by kernel_rfl) (fun y => by kernel_rfl) ?_)
   clear h; intro y2 h
   refine nx ?_
   refine cd h (fun h => ?_) fun h => ?_
   refine so ?_
   let a7 : St := ⟨(4, (vI x8)) :: (17, (vI x8)) :: (16, (vB y2)) :: a6.env, [(1000000, [(vS c0_0)])]⟩
   refine st 2 a7 (nx (ri (br (tr (tr (br (tr ?_)))))))
   injection h with h; subst h
   exact ret1_step (v := (vI x8)) (by kernel_rfl) (by kernel_rfl) ⟨by kernel_rfl, by kernel_rfl, trivial⟩
   refine ki (bn (xi (oi ?_)))
   let a8 : St := ⟨(8, (vI (IntKind.wrap .i64 (x8 + 1)))) :: (18, (vI (IntKind.wrap .i64 (x8 + 1)))) :: (16, (vB y2)) :: a6.env, [(1000000, [(vS c0_0)])]⟩
   exact st 2 a8 (ni (loop_back (s' := stgSlices_IndexFunc_Simpl_Col_impl_Col_iColAt_1_L0 p0 c0_0 (IntKind.wrap .i64 (x8 + 1))) (wr [] (es (es (es (es er_nil)))) (bs_ br_nil)) (OK_gSlices_IndexFunc_Simpl_Col_impl_Col_iColAt_1_L0 (IntKind.wrap .i64 (x8 + 1)) _ h)))
   refine ei (te (te (bh (xi (so ?_)))))
   let a9 : St := a3.p [(4, (vI (-1)))]
   refine st 1 a9 (nx (ri ?_))
   injection h with h; subst h
   exact ret1_step (v := (vI (-1))) (by kernel_rfl) (by kernel_rfl) ⟨by kernel_rfl, by kernel_rfl, trivial⟩
theorem OK_gSlices_IndexFunc_Simpl_Col_impl_Col_iColAt_1_L0 (p0 : (List GCol)) (c0_0 : (List UInt8)) (x8 : Int) (r : Int) (h : gSlices_IndexFunc_Simpl_Col_impl_Col_iColAt_1_L0 p0 c0_0 x8 = some r) : avc Tryz.prog acgSlices_IndexFunc_Simpl_Col_impl_Col_iColAt_1_L0 (qgSlices_IndexFunc_Simpl_Col_impl_Col_iColAt_1_1 c0_0 r) (stgSlices_IndexFunc_Simpl_Col_impl_Col_iColAt_1_L0 p0 c0_0 x8) := (OKs_gSlices_IndexFunc_Simpl_Col_impl_Col_iColAt_1_L0 p0 c0_0) x8 r h
theorem OK_gSlices_IndexFunc_Simpl_Col_impl_Col_iColAt_1 (p0 : (List GCol)) (c0_0 : (List UInt8)) : FOkB Tryz.prog 147 [(.d (.sl 2 (p0.map cGCol))), (.fn 148 [(.ptr 1000000 0)])] [(1000000, [(vS c0_0)])] (fun (y : Int) => (vI y)) (fun (y : Int) => [(1000000, [(vS c0_0)])]) (gSlices_IndexFunc_Simpl_Col_impl_Col_iColAt_1 p0 c0_0) := by
 intro r h
 rw [gSlices_IndexFunc_Simpl_Col_impl_Col_iColAt_1] at h
 refine acalls_of_fn trgSlices_IndexFunc_Simpl_Col_impl_Col_iColAt_1 (Nat.le_of_ble_eq_true rfl) (by intro n hn; simp at hn; simp only [NX]; omega) ?_
 show avc Tryz.prog acgSlices_IndexFunc_Simpl_Col_impl_Col_iColAt_1 (qgSlices_IndexFunc_Simpl_Col_impl_Col_iColAt_1 c0_0 _) ⟨[(0, (.d (.sl 2 (p0.map cGCol)))), (1, (.fn 148 [(.ptr 1000000 0)]))], [(1000000, [(vS c0_0)])]⟩
 delta acgSlices_IndexFunc_Simpl_Col_impl_Col_iColAt_1
 refine so ?_
 let a0 : St := ⟨[(4, (vI 0)), (0, (.d (.sl 2 (p0.map cGCol)))), (1, (.fn 148 [(.ptr 1000000 0)]))], [(1000000, [(vS c0_0)])]⟩
 refine st 1 a0 (nx (si (so ?_)))
 let a1 : St := a0.p [(6, (.d (.sl 2 (p0.map cGCol))))]
 refine st 1 a1 (ps (vI (ln p0)) (vln (sz := 2) (l := p0) (f := cGCol)) ?_)
 let a2 : St := a1.p [(8, (vI 0)), (7, (vI (ln p0)))]
 exact st 1 a2 (nx (bi (loop_go (s' := stgSlices_IndexFunc_Simpl_Col_impl_Col_iColAt_1_L0 p0 c0_0 0) (wr [] (es (es (es (es er_nil)))) (bs_ br_nil)) (OK_gSlices_IndexFunc_Simpl_Col_impl_Col_iColAt_1_L0 p0 c0_0 0 _ h))))
theorem OK_iColAt (p0 : GTable) (p1 : (List UInt8)) : FOk Tryz.prog 122 [(vGTable p0), (vS p1)] (fun y => (vI y)) (iColAt p0 p1) := by
 intro r h
 rw [iColAt] at h
 refine aof triColAt ?_
 show avc Tryz.prog aciColAt (qiColAt _) ⟨[(0, (vGTable p0)), (1, (vS p1))], []⟩
 delta aciColAt
 refine so ?_
 let a0 : St := ⟨[(4, (vI 0)), (3, (.ptr 3 0)), (2, (.ptr 2 0)), (0, (vGTable p0)), (1, (vS p1))], [(3, [(vS p1)]), (2, bGTable p0)]⟩
 refine st 3 a0 (nx (so ?_))
 let a1 : St := a0.p [(7, (.fn 148 [(.ptr 3 0)])), (6, (.d (.sl 2 (p0.cols.map cGCol)))), (5, (.ptr 2 1))]
 refine st 3 a1 (callg_step ⟨[(1000000, 3)], [], [], [], [], [], [], [], []⟩ (m := gSlices_IndexFunc_Simpl_Col_impl_Col_iColAt_1 p0.cols p1) (S' := fun (y : Int) => ⟨(8, (vI y)) :: a1.env, [(3, [(vS p1)]), (2, bGTable p0)]⟩) h (OK_gSlices_IndexFunc_Simpl_Col_impl_Col_iColAt_1 p0.cols p1) (by kernel_rfl) (by kernel_rfl) (by kernel_rfl) (by kernel_rfl) (fun y => by kernel_rfl) (fun y => by kernel_rfl) ?_)
 clear h; intro y1 h
 let a2 : St := ⟨(4, (vI y1)) :: (8, (vI y1)) :: a1.env, [(3, [(vS p1)]), (2, bGTable p0)]⟩
 refine st 1 a2 (nx (ri ?_))
 injection h with h; subst h
 exact r1 (v := (vI y1))
theorem OK_iNameOk (p0 : (List UInt8)) : FOk Tryz.prog 100 [(vS p0)] (fun y => (vB y)) (iNameOk p0) := by
 intro r h
 rw [iNameOk] at h
 refine aof triNameOk ?_
 show avc Tryz.prog aciNameOk (qiNameOk _) ⟨[(0, (vS p0))], []⟩
 delta aciNameOk
 refine so ?_
 let a0 : St := ⟨[(2, (vB false)), (0, (vS p0))], []⟩
 refine st 1 a0 (nx (so ?_))
 let a1 : St := a0.p [(6, (vB (decide (1 ≤ (ln p0))))), (5, (vB (decide (1 ≤ (ln p0))))), (4, (vI (ln p0))), (3, (vS p0))]
 refine st 4 a1 (gp true (decide (1 ≤ (ln p0))) (vS p0) (fun hc => vl) (gp true (decide (1 ≤ (ln p0))) (vI (ln p0)) (fun hc => vg hc) (gp true (decide (1 ≤ (ln p0))) (vB (decide ((ln p0) ≤ 20))) (fun hc => vg hc) ?_)))
 refine vs (fun (y : Bool) => (vB y)) h (fun y hy => vop_pickV hy (p := (true && ((decide (1 ≤ (ln p0))) == true))) (q := true) (by kernel_rfl) (by kernel_rfl) (by kernel_rfl) (by kernel_rfl) (fun hb => gc_t rfl hb) (fun _ => rfl)) fun y1 h => ?_
 let a2 : St := a1.p [(2, (vB y1)), (10, (vB y1)), (9, (.ite (true && ((decide (1 ≤ (ln p0))) == true)) (vB (decide ((ln p0) ≤ 20))))), (8, (.ite (true && ((decide (1 ≤ (ln p0))) == true)) (vI (ln p0)))), (7, (.ite (true && ((decide (1 ≤ (ln p0))) == true)) (vS p0)))]
 refine st 1 a2 (nx (ri ?_))
 injection h with h; subst h
 exact r1 (v := (vB y1))
theorem OKs_iIsTable_L0 (p0 : GTable) : (∀ (x8 : Int) (r : Bool), iIsTable_L0 p0 x8 = some r → avc Tryz.prog aciIsTable_L0 (qiIsTable_1 r) (stiIsTable_L0 p0 x8)) := by
 refine iIsTable_L0.partial_correctness p0 (fun x8 r => avc Tryz.prog aciIsTable_L0 (qiIsTable_1 r) (stiIsTable_L0 p0 x8)) ?_
 · intro F_iIsTable_L0 OK_iIsTable_L0 x8 r h
   delta aciIsTable_L0
   refine loop_unroll (so ?_)
   let a3 : St := (stiIsTable_L0 p0 x8).p [(9, (vB (decide (x8 < (ln p0.cols)))))]
   refine st 1 a3 (nx (si ?_))
   refine cd h (fun h => ?_) fun h => ?_
   refine ki (xi (si (bi (so ?_))))
   let a4 : St := a3.p [(10, (vI x8))]
   refine st 1 a4 (vs (fun (y : GCol) => (.rp (cGCol y))) h (fun y hy => via (l := p0.cols) (f := cGCol) (g := cGCol) (k := .i64) hy (fun _ => rfl)) fun y1 h => ?_)
   let a5 : St := ⟨(3, (vI x8)) :: (4, (.ptr 4 0)) :: (12, (vGCol y1)) :: (11, (.rp (cGCol y1))) :: a4.env, [(4, bGCol y1), (1, bGTable p0)]⟩
   refine st 4 a5 (nx (so ?_))
   let a6 : St := a5.p [(14, (vS y1.name)), (13, (.ptr 4 0))]
   refine st 2 a6 (cs h (OK_iNameOk y1.name) fun y2 h => ?_)
   let a7 : St := a6.p [(17, (vB (!y2))), (16, (vB (!y2))), (15, (vB y2))]
   refine st 2 a7 (gp true (!y2) (.ptr 4 1) (fun hc => vl) (gp true (!y2) (vI y1.type) (fun hc => vg hc) (gp true (!y2) (vB (decide (y1.type < 1))) (fun hc => vg hc) (vs (fun (y : Bool) => (vB y)) h (fun y hy => vop_pickV hy (p := true) (q := (true && ((!y2) == false))) (by kernel_rfl) (by kernel_rfl) (by kernel_rfl) (by kernel_rfl) (fun _ => rfl) (fun hb => gc_f rfl hb)) fun y3 h => ?_))))
   let a8 : St := a7.p [(22, (vB y3)), (21, (vB y3)), (20, (.ite (true && ((!y2) == false)) (vB (decide (y1.type < 1))))), (19, (.ite (true && ((!y2) == false)) (vI y1.type))), (18, (.ite (true && ((!y2) == false)) (.ptr 4 1)))]
   refine st 1 a8 (gp true y3 (.ptr 4 1) (fun hc => vl) (gp true y3 (vI y1.type) (fun hc => vg hc) (gp true y3 (vB (decide (3 < y1.type))) (fun hc => vg hc) (vs (fun (y : Bool) => (vB y)) h (fun y hy => vop_pickV hy (p := true) (q := (true && (y3 == false))) (by kernel_rfl) (by kernel_rfl) (by kernel_rfl) (by kernel_rfl) (fun _ => rfl) (fun hb => gc_f rfl hb)) fun y4 h => ?_))))
   let a9 : St := a8.p [(27, (vB y4)), (26, (vB y4)), (25, (.ite (gF y3) (vB (decide (3 < y1.type))))), (24, (.ite (gF y3) (vI y1.type))), (23, (.ite (gF y3) (.ptr 4 1)))]
   refine st 1 a9 (gp true y4 (vGTable p0) (fun hc => vl) (gp true y4 (.ptr 4 0) (fun hc => vl) (gp true y4 (vS y1.name) (fun hc => vg hc) ?_)))
   refine gcall_step (p := true) (b := y4) (m := iColAt p0 y1.name) (dflt := default) (args := [(vGTable p0), (vS y1.name)]) (v' := (fun y => (vI y))) h (by kernel_rfl) (OK_iColAt p0 y1.name) (fun hc => by kernel_rfl) (by kernel_rfl) (fun _ => rfl) (fun hc => (Eq.trans (b := ([(true && (y4 == false)), (true && (y4 == false))] : List Bool).all id) (by kernel_rfl) (all_c hc (all_c hc rfl)))) ?_
   clear h; intro y5 h
   refine gp true y4 (vI x8) (fun hc => vl) (gp true y4 (vB (!decide (y5 = x8))) (fun hc => vop_val1 (Eq.trans (b := ([(true && (y4 == false)), (true && (y4 == false))] : List Bool).all id) (by kernel_rfl) (all_c hc (all_c hc rfl))) (by kernel_rfl)) ?_)
   refine vs (fun (y : Bool) => (vB y)) h (fun y hy => vop_pickV hy (p := true) (q := (true && (y4 == false))) (by kernel_rfl) (by kernel_rfl) (by kernel_rfl) (by kernel_rfl) (fun _ => rfl) (fun hb => gc_f rfl hb)) fun y6 h => (nx ?_)
   refine cd h (fun h => ?_) fun h => ?_
   refine so ?_
   let a10 : St := a9.p [(2, (vB false)), (34, (vB y6)), (33, (.ite (gF y4) (vB (!decide (y5 = x8))))), (32, (.ite (gF y4) (vI x8))), (31, (.ite (gF y4) (vI y5))), (30, (.ite (gF y4) (vS y1.name))), (29, (.ite (gF y4) (.ptr 4 0))), (28, (.ite (gF y4) (vGTable p0)))]
   refine st 1 a10 (nx (ri (br (tr (tr (br (tr ?_)))))))
   injection h with h; subst h
   exact r1 (v := (vB false))
   refine ki (bn (xi (oi ?_)))
   let a11 : St := a9.p [(8, (vI (IntKind.wrap .i64 (x8 + 1)))), (35, (vI (IntKind.wrap .i64 (x8 + 1)))), (34, (vB y6)), (33, (.ite (gF y4) (vB (!decide (y5 = x8))))), (32, (.ite (gF y4) (vI x8))), (31, (.ite (gF y4) (vI y5))), (30, (.ite (gF y4) (vS y1.name))), (29, (.ite (gF y4) (.ptr 4 0))), (28, (.ite (gF y4) (vGTable p0)))]
   exact st 2 a11 (ni (loop_back (s' := stiIsTable_L0 p0 (IntKind.wrap .i64 (x8 + 1))) (wr [] (es (es (es (es er_nil)))) (bs_ br_nil)) (OK_iIsTable_L0 (IntKind.wrap .i64 (x8 + 1)) _ h)))
   refine ei (te (te (bh (xi (so ?_)))))
   let a12 : St := a3.p [(37, (vS p0.name)), (36, (.ptr 1 0))]
   refine st 2 a12 (cs h (OK_iNameOk p0.name) fun y7 h => ?_)
   let a13 : St := a12.p [(39, (vB y7)), (38, (vB y7))]
   refine st 1 a13 (gp true y7 (.ptr 1 1) (fun hc => vl) (gp true y7 (.d (.sl 2 (p0.cols.map cGCol))) (fun hc => vg hc) (gp true y7 (vI (ln p0.cols)) (fun hc => vop_len (sz := 2) (l := p0.cols) (f := cGCol) (Eq.trans (b := ([(true && (y7 == true))] : List Bool).all id) (by kernel_rfl) (all_c hc rfl)) (by kernel_rfl)) (gp true y7 (vB (decide (1 ≤ (ln p0.cols)))) (fun hc => vg hc) ?_))))
   refine vs (fun (y : Bool) => (vB y)) h (fun y hy => vop_pickV hy (p := (true && (y7 == true))) (q := true) (by kernel_rfl) (by kernel_rfl) (by kernel_rfl) (by kernel_rfl) (fun hb => gc_t rfl hb) (fun _ => rfl)) fun y8 h => ?_
   let a14 : St := a13.p [(45, (vB y8)), (44, (vB y8)), (43, (.ite (gT y7) (vB (decide (1 ≤ (ln p0.cols)))))), (42, (.ite (gT y7) (vI (ln p0.cols)))), (41, (.ite (gT y7) (.d (.sl 2 (p0.cols.map cGCol))))), (40, (.ite (gT y7) (.ptr 1 1)))]
   refine st 1 a14 (gp true y8 (.ptr 1 1) (fun hc => vl) (gp true y8 (.d (.sl 2 (p0.cols.map cGCol))) (fun hc => vg hc) (gp true y8 (vI (ln p0.cols)) (fun hc => vop_len (sz := 2) (l := p0.cols) (f := cGCol) (Eq.trans (b := ([(true && (y8 == true))] : List Bool).all id) (by kernel_rfl) (all_c hc rfl)) (by kernel_rfl)) (gp true y8 (vB (decide ((ln p0.cols) ≤ 4))) (fun hc => vg hc) ?_))))
   refine vs (fun (y : Bool) => (vB y)) h (fun y hy => vop_pickV hy (p := (true && (y8 == true))) (q := true) (by kernel_rfl) (by kernel_rfl) (by kernel_rfl) (by kernel_rfl) (fun hb => gc_t rfl hb) (fun _ => rfl)) fun y9 h => ?_
   let a15 : St := a14.p [(2, (vB y9)), (50, (vB y9)), (49, (.ite (gT y8) (vB (decide ((ln p0.cols) ≤ 4))))), (48, (.ite (gT y8) (vI (ln p0.cols)))), (47, (.ite (gT y8) (.d (.sl 2 (p0.cols.map cGCol))))), (46, (.ite (gT y8) (.ptr 1 1)))]
   refine st 1 a15 (nx (ri ?_))
   injection h with h; subst h
   exact r1 (v := (vB y9))
theorem OK_iIsTable_L0 (p0 : GTable) (x8 : Int) (r : Bool) (h : iIsTable_L0 p0 x8 = some r) : avc Tryz.prog aciIsTable_L0 (qiIsTable_1 r) (stiIsTable_L0 p0 x8) := (OKs_iIsTable_L0 p0) x8 r h
theorem OK_iIsTable (p0 : GTable) : FOk Tryz.prog 82 [(vGTable p0)] (fun y => (vB y)) (iIsTable p0) := by
 intro r h
 rw [iIsTable] at h
 refine aof triIsTable ?_
 show avc Tryz.prog aciIsTable (qiIsTable _) ⟨[(0, (vGTable p0))], []⟩
 delta aciIsTable
 refine so ?_
 let a0 : St := ⟨[(2, (vB false)), (1, (.ptr 1 0)), (0, (vGTable p0))], [(1, bGTable p0)]⟩
 refine st 2 a0 (nx (si (so ?_)))
 let a1 : St := a0.p [(6, (.d (.sl 2 (p0.cols.map cGCol)))), (5, (.ptr 1 1))]
 refine st 2 a1 (ps (vI (ln p0.cols)) (vln (sz := 2) (l := p0.cols) (f := cGCol)) ?_)
 let a2 : St := a1.p [(8, (vI 0)), (7, (vI (ln p0.cols)))]
 exact st 1 a2 (nx (bi (loop_go (s' := stiIsTable_L0 p0 0) (wr [] (es (es (es (es er_nil)))) (bs_ br_nil)) (OK_iIsTable_L0 p0 0 _ h))))
theorem OK_iTableAt_1_x (p0 : GTable) (c0_0 : (List UInt8)) : FOkB Tryz.prog 124 [(vGTable p0), (.ptr 1000000 0)] [(1000000, [(vS c0_0)])] (fun (y : Bool) => (vB y)) (fun (y : Bool) => [(1000000, [(vS c0_0)])]) (iTableAt_1_x p0 c0_0) := by
 intro r h
 rw [iTableAt_1_x] at h
 refine acalls_of_fn triTableAt_1_x (Nat.le_of_ble_eq_true rfl) (by intro n hn; simp at hn; simp only [NX]; omega) ?_
 show avc Tryz.prog aciTableAt_1_x (qiTableAt_1_x c0_0 _) ⟨[(0, (vGTable p0)), (1, (.ptr 1000000 0))], [(1000000, [(vS c0_0)])]⟩
 delta aciTableAt_1_x
 refine so ?_
 let a0 : St := ⟨[(3, (vB false)), (2, (.ptr 2 0)), (0, (vGTable p0)), (1, (.ptr 1000000 0))], [(2, bGTable p0), (1000000, [(vS c0_0)])]⟩
 refine st 2 a0 (nx (so ?_))
 let a1 : St := a0.p [(3, (vB (decide (p0.name = c0_0)))), (7, (vB (decide (p0.name = c0_0)))), (6, (vS c0_0)), (5, (vS p0.name)), (4, (.ptr 2 0))]
 refine st 5 a1 (nx (ri ?_))
 injection h with h; subst h
 exact ret1_step (v := (vB (decide (p0.name = c0_0)))) (by kernel_rfl) (by kernel_rfl) ⟨by kernel_rfl, by kernel_rfl, trivial⟩
theorem OKs_gSlices_IndexFunc_Simpl_Table_impl_Table_iTableAt_1_L0 (p0 : (List GTable)) (c0_0 : (List UInt8)) : (∀ (x8 : Int) (r : Int), gSlices_IndexFunc_Simpl_Table_impl_Table_iTableAt_1_L0 p0 c0_0 x8 = some r → avc Tryz.prog acgSlices_IndexFunc_Simpl_Table_impl_Table_iTableAt_1_L0 (qgSlices_IndexFunc_Simpl_Table_impl_Table_iTableAt_1_1 c0_0 r) (stgSlices_IndexFunc_Simpl_Table_impl_Table_iTableAt_1_L0 p0 c0_0 x8)) := by
 refine gSlices_IndexFunc_Simpl_Table_impl_Table_iTableAt_1_L0.partial_correctness p0 c0_0 (fun x8 r => avc Tryz.prog acgSlices_IndexFunc_Simpl_Table_impl_Table_iTableAt_1_L0 (qgSlices_IndexFunc_Simpl_Table_impl_Table_iTableAt_1_1 c0_0 r) (stgSlices_IndexFunc_Simpl_Table_impl_Table_iTableAt_1_L0 p0 c0_0 x8)) ?_
 · intro F_gSlices_IndexFunc_Simpl_Table_impl_Table_iTableAt_1_L0 OK_gSlices_IndexFunc_Simpl_Table_impl_Table_iTableAt_1_L0 x8 r h
   delta acgSlices_IndexFunc_Simpl_Table_impl_Table_iTableAt_1_L0
   refine loop_unroll (so ?_)
   let a3 : St := (stgSlices_IndexFunc_Simpl_Table_impl_Table_iTableAt_1_L0 p0 c0_0 x8).p [(9, (vB (decide (x8 < (ln p0)))))]
   refine st 1 a3 (nx (si ?_))
   refine cd h (fun h => ?_) fun h => ?_
   refine ki (xi (si (bi (so ?_))))
   let a4 : St := a3.p [(5, (vI x8)), (10, (vI x8))]
   refine st 2 a4 (nx (so ?_))
   let a5 : St := a4.p [(13, (vI x8)), (12, (.d (.sl 2 (p0.map cGTable)))), (11, (.fn 124 [(.ptr 1000000 0)]))]
   refine st 3 a5 (vs (fun (y : GTable) => (.rp (cGTable y))) h (fun y hy => via (l := p0) (f := cGTable) (g := cGTable) (k := .i64) hy (fun _ => rfl)) fun y1 h => ?_)
   let a6 : St := a5.p [(15, (vGTable y1)), (14, (.rp (cGTable y1)))]
   refine st 1 a6 (callvg_step ⟨[(1000000, 1000000)], [], [], [], [], [], [], [], []⟩ (m := iTableAt_1_x y1 c0_0) (caps := [(.ptr 1000000 0)]) (S' := fun (y : Bool) => ⟨(16, (vB y)) :: a6.env, [(1000000, [(vS c0_0)])]⟩) h (OK_iTableAt_1_x y1 c0_0) (by kernel_rfl) (by kernel_rfl) (by kernel_rfl) (by kernel_rfl) (by kernel_rfl) (by kernel_rfl) (fun y => by kernel_rfl) (fun y => by kernel_rfl) ?_)
   clear h; intro y2 h
   refine nx ?_
   refine cd h (fun h => ?_) fun h => ?_
   refine so ?_
   let a7 : St := ⟨(4, (vI x8)) :: (17, (vI x8)) :: (16, (vB y2)) :: a6.env, [(1000000, [(vS c0_0)])]⟩
   refine st 2 a7 (nx (ri (br (tr (tr (br (tr ?_)))))))
   injection h with h; subst h
   exact ret1_step (v := (vI x8)) (by kernel_rfl) (by kernel_rfl) ⟨by kernel_rfl, by kernel_rfl, trivial⟩
   refine ki (bn (xi (oi ?_)))
   let a8 : St := ⟨(8, (vI (IntKind.wrap .i64 (x8 + 1)))) :: (18, (vI (IntKind.wrap .i64 (x8 + 1)))) :: (16, (vB y2)) :: a6.env, [(1000000, [(vS c0_0)])]⟩
   exact st 2 a8 (ni (loop_back (s' := stgSlices_IndexFunc_Simpl_Table_impl_Table_iTableAt_1_L0 p0 c0_0 (IntKind.wrap .i64 (x8 + 1))) (wr [] (es (es (es (es er_nil)))) (bs_ br_nil)) (OK_gSlices_IndexFunc_Simpl_Table_impl_Table_iTableAt_1_L0 (IntKind.wrap .i64 (x8 + 1)) _ h)))
   refine ei (te (te (bh (xi (so ?_)))))
   let a9 : St := a3.p [(4, (vI (-1)))]
   refine st 1 a9 (nx (ri ?_))
   injection h with h; subst h
   exact ret1_step (v := (vI (-1))) (by kernel_rfl) (by kernel_rfl) ⟨by kernel_rfl, by kernel_rfl, trivial⟩
theorem OK_gSlices_IndexFunc_Simpl_Table_impl_Table_iTableAt_1_L0 (p0 : (List GTable)) (c0_0 : (List UInt8)) (x8 : Int) (r : Int) (h : gSlices_IndexFunc_Simpl_Table_impl_Table_iTableAt_1_L0 p0 c0_0 x8 = some r) : avc Tryz.prog acgSlices_IndexFunc_Simpl_Table_impl_Table_iTableAt_1_L0 (qgSlices_IndexFunc_Simpl_Table_impl_Table_iTableAt_1_1 c0_0 r) (stgSlices_IndexFunc_Simpl_Table_impl_Table_iTableAt_1_L0 p0 c0_0 x8) := (OKs_gSlices_IndexFunc_Simpl_Table_impl_Table_iTableAt_1_L0 p0 c0_0) x8 r h
theorem OK_gSlices_IndexFunc_Simpl_Table_impl_Table_iTableAt_1 (p0 : (List GTable)) (c0_0 : (List UInt8)) : FOkB Tryz.prog 123 [(.d (.sl 2 (p0.map cGTable))), (.fn 124 [(.ptr 1000000 0)])] [(1000000, [(vS c0_0)])] (fun (y : Int) => (vI y)) (fun (y : Int) => [(1000000, [(vS c0_0)])]) (gSlices_IndexFunc_Simpl_Table_impl_Table_iTableAt_1 p0 c0_0) := by
 intro r h
 rw [gSlices_IndexFunc_Simpl_Table_impl_Table_iTableAt_1] at h
 refine acalls_of_fn trgSlices_IndexFunc_Simpl_Table_impl_Table_iTableAt_1 (Nat.le_of_ble_eq_true rfl) (by intro n hn; simp at hn; simp only [NX]; omega) ?_
 show avc Tryz.prog acgSlices_IndexFunc_Simpl_Table_impl_Table_iTableAt_1 (qgSlices_IndexFunc_Simpl_Table_impl_Table_iTableAt_1 c0_0 _) ⟨[(0, (.d (.sl 2 (p0.map cGTable)))), (1, (.fn 124 [(.ptr 1000000 0)]))], [(1000000, [(vS c0_0)])]⟩
 delta acgSlices_IndexFunc_Simpl_Table_impl_Table_iTableAt_1
 refine so ?_
 let a0 : St := ⟨[(4, (vI 0)), (0, (.d (.sl 2 (p0.map cGTable)))), (1, (.fn 124 [(.ptr 1000000 0)]))], [(1000000, [(vS c0_0)])]⟩
 refine st 1 a0 (nx (si (so ?_)))
 let a1 : St := a0.p [(6, (.d (.sl 2 (p0.map cGTable))))]
 refine st 1 a1 (ps (vI (ln p0)) (vln (sz := 2) (l := p0) (f := cGTable)) ?_)
 let a2 : St := a1.p [(8, (vI 0)), (7, (vI (ln p0)))]
 exact st 1 a2 (nx (bi (loop_go (s' := stgSlices_IndexFunc_Simpl_Table_impl_Table_iTableAt_1_L0 p0 c0_0 0) (wr [] (es (es (es (es er_nil)))) (bs_ br_nil)) (OK_gSlices_IndexFunc_Simpl_Table_impl_Table_iTableAt_1_L0 p0 c0_0 0 _ h))))
theorem OK_iTableAt (p0 : GCatalog) (p1 : (List UInt8)) : FOk Tryz.prog 83 [(vGCatalog p0), (vS p1)] (fun y => (vI y)) (iTableAt p0 p1) := by
 intro r h
 rw [iTableAt] at h
 refine aof triTableAt ?_
 show avc Tryz.prog aciTableAt (qiTableAt _) ⟨[(0, (vGCatalog p0)), (1, (vS p1))], []⟩
 delta aciTableAt
 refine so ?_
 let a0 : St := ⟨[(4, (vI 0)), (3, (.ptr 3 0)), (2, (.ptr 2 0)), (0, (vGCatalog p0)), (1, (vS p1))], [(3, [(vS p1)]), (2, bGCatalog p0)]⟩
 refine st 3 a0 (nx (so ?_))
 let a1 : St := a0.p [(7, (.fn 124 [(.ptr 3 0)])), (6, (.d (.sl 2 (p0.tables.map cGTable)))), (5, (.ptr 2 0))]
 refine st 3 a1 ?_
 refine callg_step ⟨[(1000000, 3)], [], [], [], [], [], [], [], []⟩ (m := gSlices_IndexFunc_Simpl_Table_impl_Table_iTableAt_1 p0.tables p1) (S' := fun (y : Int) => ⟨(8, (vI y)) :: a1.env, [(3, [(vS p1)]), (2, bGCatalog p0)]⟩) h (OK_gSlices_IndexFunc_Simpl_Table_impl_Table_iTableAt_1 p0.tables p1) (by kernel_rfl) (by kernel_rfl) (by kernel_rfl) (by kernel_rfl) (fun y => by kernel_rfl) (fun y => by kernel_rfl) ?_
 clear h; intro y1 h
 let a2 : St := ⟨(4, (vI y1)) :: (8, (vI y1)) :: a1.env, [(3, [(vS p1)]), (2, bGCatalog p0)]⟩
 refine st 1 a2 (nx (ri ?_))
 injection h with h; subst h
 exact r1 (v := (vI y1))
theorem OKs_iCatalogOk_L0 (p0 : GCatalog) : (∀ (x8 : Int) (r : Bool), iCatalogOk_L0 p0 x8 = some r → avc Tryz.prog aciCatalogOk_L0 (qiCatalogOk_1 r) (stiCatalogOk_L0 p0 x8)) := by
 refine iCatalogOk_L0.partial_correctness p0 (fun x8 r => avc Tryz.prog aciCatalogOk_L0 (qiCatalogOk_1 r) (stiCatalogOk_L0 p0 x8)) ?_
 · intro F_iCatalogOk_L0 OK_iCatalogOk_L0 x8 r h
   delta aciCatalogOk_L0
   refine loop_unroll (so ?_)
   let a3 : St := (stiCatalogOk_L0 p0 x8).p [(9, (vB (decide (x8 < (ln p0.tables)))))]
   refine st 1 a3 (nx (si ?_))
   refine cd h (fun h => ?_) fun h => ?_
   refine ki (xi (si (bi (so ?_))))
   let a4 : St := a3.p [(10, (vI x8))]
   refine st 1 a4 (vs (fun (y : GTable) => (.rp (cGTable y))) h (fun y hy => via (l := p0.tables) (f := cGTable) (g := cGTable) (k := .i64) hy (fun _ => rfl)) fun y1 h => ?_)
   let a5 : St := ⟨(3, (vI x8)) :: (4, (.ptr 4 0)) :: (12, (vGTable y1)) :: (11, (.rp (cGTable y1))) :: a4.env, [(4, bGTable y1), (1, bGCatalog p0)]⟩
   refine st 4 a5 (nx (so ?_))
   let a6 : St := a5.p [(13, (vGTable y1))]
   refine st 1 a6 (cs h (OK_iIsTable y1) fun y2 h => ?_)
   let a7 : St := a6.p [(16, (vB (!y2))), (15, (vB (!y2))), (14, (vB y2))]
   refine st 2 a7 (gp true (!y2) (vGCatalog p0) (fun hc => vl) (gp true (!y2) (.ptr 4 0) (fun hc => vl) (gp true (!y2) (vS y1.name) (fun hc => vg hc) ?_)))
   refine gcall_step (p := true) (b := (!y2)) (m := iTableAt p0 y1.name) (dflt := default) (args := [(vGCatalog p0), (vS y1.name)]) (v' := (fun y => (vI y))) h (by kernel_rfl) (OK_iTableAt p0 y1.name) (fun hc => by kernel_rfl) (by kernel_rfl) (fun _ => rfl) (fun hc => (Eq.trans (b := ([(true && ((!y2) == false)), (true && ((!y2) == false))] : List Bool).all id) (by kernel_rfl) (all_c hc (all_c hc rfl)))) ?_
   clear h; intro y3 h
   refine gp true (!y2) (vI x8) (fun hc => vl) (gp true (!y2) (vB (!decide (y3 = x8))) (fun hc => vop_val1 (Eq.trans (b := ([(true && ((!y2) == false)), (true && ((!y2) == false))] : List Bool).all id) (by kernel_rfl) (all_c hc (all_c hc rfl))) (by kernel_rfl)) ?_)
   refine vs (fun (y : Bool) => (vB y)) h (fun y hy => vop_pickV hy (p := true) (q := (true && ((!y2) == false))) (by kernel_rfl) (by kernel_rfl) (by kernel_rfl) (by kernel_rfl) (fun _ => rfl) (fun hb => gc_f rfl hb)) fun y4 h => (nx ?_)
   refine cd h (fun h => ?_) fun h => ?_
   refine so ?_
   let a8 : St := a7.p [(2, (vB false)), (23, (vB y4)), (22, (.ite (true && ((!y2) == false)) (vB (!decide (y3 = x8))))), (21, (.ite (true && ((!y2) == false)) (vI x8))), (20, (.ite (true && ((!y2) == false)) (vI y3))), (19, (.ite (true && ((!y2) == false)) (vS y1.name))), (18, (.ite (true && ((!y2) == false)) (.ptr 4 0))), (17, (.ite (true && ((!y2) == false)) (vGCatalog p0)))]
   refine st 1 a8 (nx (ri (br (tr (tr (br (tr ?_)))))))
   injection h with h; subst h
   exact r1 (v := (vB false))
   refine ki (bn (xi (oi ?_)))
   let a9 : St := a7.p [(8, (vI (IntKind.wrap .i64 (x8 + 1)))), (24, (vI (IntKind.wrap .i64 (x8 + 1)))), (23, (vB y4)), (22, (.ite (true && ((!y2) == false)) (vB (!decide (y3 = x8))))), (21, (.ite (true && ((!y2) == false)) (vI x8))), (20, (.ite (true && ((!y2) == false)) (vI y3))), (19, (.ite (true && ((!y2) == false)) (vS y1.name))), (18, (.ite (true && ((!y2) == false)) (.ptr 4 0))), (17, (.ite (true && ((!y2) == false)) (vGCatalog p0)))]
   exact st 2 a9 (ni (loop_back (s' := stiCatalogOk_L0 p0 (IntKind.wrap .i64 (x8 + 1))) (wr [] (es (es (es (es er_nil)))) (bs_ br_nil)) (OK_iCatalogOk_L0 (IntKind.wrap .i64 (x8 + 1)) _ h)))
   refine ei (te (te (bh (xi (so ?_)))))
   let a10 : St := a3.p [(26, (.d (.sl 2 (p0.tables.map cGTable)))), (25, (.ptr 1 0))]
   refine st 2 a10 (ps (vI (ln p0.tables)) (vln (sz := 2) (l := p0.tables) (f := cGTable)) ?_)
   let a11 : St := a10.p [(2, (vB (decide ((ln p0.tables) ≤ 4)))), (28, (vB (decide ((ln p0.tables) ≤ 4)))), (27, (vI (ln p0.tables)))]
   refine st 2 a11 (nx (ri ?_))
   injection h with h; subst h
   exact r1 (v := (vB (decide ((ln p0.tables) ≤ 4))))
theorem OK_iCatalogOk_L0 (p0 : GCatalog) (x8 : Int) (r : Bool) (h : iCatalogOk_L0 p0 x8 = some r) : avc Tryz.prog aciCatalogOk_L0 (qiCatalogOk_1 r) (stiCatalogOk_L0 p0 x8) := (OKs_iCatalogOk_L0 p0) x8 r h
theorem OK_iCatalogOk (p0 : GCatalog) : FOk Tryz.prog 44 [(vGCatalog p0)] (fun y => (vB y)) (iCatalogOk p0) := by
 intro r h
 rw [iCatalogOk] at h
 refine aof triCatalogOk ?_
 show avc Tryz.prog aciCatalogOk (qiCatalogOk _) ⟨[(0, (vGCatalog p0))], []⟩
 delta aciCatalogOk
 refine so ?_
 let a0 : St := ⟨[(2, (vB false)), (1, (.ptr 1 0)), (0, (vGCatalog p0))], [(1, bGCatalog p0)]⟩
 refine st 2 a0 (nx (si (so ?_)))
 let a1 : St := a0.p [(6, (.d (.sl 2 (p0.tables.map cGTable)))), (5, (.ptr 1 0))]
 refine st 2 a1 (ps (vI (ln p0.tables)) (vln (sz := 2) (l := p0.tables) (f := cGTable)) ?_)
 let a2 : St := a1.p [(8, (vI 0)), (7, (vI (ln p0.tables)))]
 exact st 1 a2 (nx (bi (loop_go (s' := stiCatalogOk_L0 p0 0) (wr [] (es (es (es (es er_nil)))) (bs_ br_nil)) (OK_iCatalogOk_L0 p0 0 _ h))))
theorem OK_iPrinter_put_x (p0 : GPrinter) (p1 : Int) (p2 : (List UInt8)) : FOkB Tryz.prog 125 [(.ptr 1000000 0), (vI p1), (vS p2)] [(1000000, [(.osl 6000000 53 3 (p0.list.map cGToken)), (vB p0.full)])] (fun (y : GPrinter) => (.tup [])) (fun (y : GPrinter) => [(1000000, [(.osl 6000000 53 3 (y.list.map cGToken)), (vB y.full)])]) (iPrinter_put_x p0 p1 p2) := by
 intro r h
 rw [iPrinter_put_x] at h
 refine acalls_of_fn triPrinter_put_x (Nat.le_of_ble_eq_true rfl) (by intro n hn; simp at hn; simp only [NX]; omega) ?_
 show avc Tryz.prog aciPrinter_put_x (qiPrinter_put_x _) ⟨[(0, (.ptr 1000000 0)), (1, (vI p1)), (2, (vS p2))], [(1000000, [(.osl 6000000 53 3 (p0.list.map cGToken)), (vB p0.full)])]⟩
 delta aciPrinter_put_x
 refine oi ?_
 let a0 : St := ⟨[(13, (vGToken (GToken.mk p1 p2 0))), (12, (vS p2)), (11, (vI p1)), (10, (.osl 6000000 53 3 (p0.list.map cGToken))), (9, (.ptr 1000000 0)), (8, (.ptr 1000000 0)), (7, (.ptr 1000000 0)), (6, (.ptr 1000000 0)), (0, (.ptr 1000000 0)), (1, (vI p1)), (2, (vS p2))], [(1000000, [(.osl 6000000 53 3 (p0.list.map cGToken)), (vB p0.full)])]⟩
 refine st 8 a0 (bsl_step (l := ([(GToken.mk p1 p2 0)] : List GToken)) (f := cGToken) (g := cGToken) (by kernel_rfl) (fun _ => rfl) (by kernel_rfl) ?_)
 refine app_step (t := 6000000) (l := p0.list) (m := ([(GToken.mk p1 p2 0)] : List GToken)) (f := cGToken) (S' := fun y => ⟨[(15, (.osl 15 53 3 (y.map cGToken))), (14, (.osl 14 53 3 (([(GToken.mk p1 p2 0)] : List GToken).map cGToken))), (13, (vGToken (GToken.mk p1 p2 0))), (12, (vS p2)), (11, (vI p1)), (10, (.d (.sl 3 (p0.list.map cGToken)))), (9, (.ptr 1000000 0)), (8, (.ptr 1000000 0)), (7, (.ptr 1000000 0)), (6, (.ptr 1000000 0)), (0, (.ptr 1000000 0)), (1, (vI p1)), (2, (vS p2))], [(1000000, bGPrinter p0)]⟩) h (by kernel_rfl) (by kernel_rfl) (by kernel_rfl) (by kernel_rfl) (fun y => by kernel_rfl) ?_
 clear h; intro y1 h
 let a1 : St := ⟨[(17, (.ptr 1000000 0)), (16, (.ptr 1000000 0)), (15, (.osl 15 53 3 (y1.map cGToken))), (14, (.osl 14 53 3 (([(GToken.mk p1 p2 0)] : List GToken).map cGToken))), (13, (vGToken (GToken.mk p1 p2 0))), (12, (vS p2)), (11, (vI p1)), (10, (.d (.sl 3 (p0.list.map cGToken)))), (9, (.ptr 1000000 0)), (8, (.ptr 1000000 0)), (7, (.ptr 1000000 0)), (6, (.ptr 1000000 0)), (0, (.ptr 1000000 0)), (1, (vI p1)), (2, (vS p2))], [(1000000, [(.osl 15 53 3 (y1.map cGToken)), (vB p0.full)])]⟩
 refine st 3 a1 (ni (retn_wk (s' := ⟨[], [(1000000, [(.osl 6000000 53 3 (y1.map cGToken)), (vB p0.full)])]⟩) (wr [(6000000, .old 15)] er_nil (br_cons (c0 := [(.osl 15 53 3 (y1.map cGToken)), (vB p0.full)]) (by kernel_rfl) (vrs_cons (vr_old (t := 15) (by kernel_rfl) (by kernel_rfl)) (vrs_cons (vr_same (by kernel_rfl) (by kernel_rfl)) (vrs_nil))) br_nil)) ?_))
 injection h with h; subst h
 exact ret0_step ⟨by kernel_rfl, by kernel_rfl, trivial⟩
theorem OK_iPrinter_sign_x (p0 : GPrinter) (p1 : (List UInt8)) : FOkB Tryz.prog 86 [(.ptr 1000000 0), (vS p1)] [(1000000, [(.osl 6000000 53 3 (p0.list.map cGToken)), (vB p0.full)])] (fun (y : GPrinter) => (.tup [])) (fun (y : GPrinter) => [(1000000, [(.osl 6000000 53 3 (y.list.map cGToken)), (vB y.full)])]) (iPrinter_sign_x p0 p1) := by
 intro r h
 rw [iPrinter_sign_x] at h
 refine acalls_of_fn triPrinter_sign_x (Nat.le_of_ble_eq_true rfl) (by intro n hn; simp at hn; simp only [NX]; omega) ?_
 show avc Tryz.prog aciPrinter_sign_x (qiPrinter_sign_x _) ⟨[(0, (.ptr 1000000 0)), (1, (vS p1))], [(1000000, [(.osl 6000000 53 3 (p0.list.map cGToken)), (vB p0.full)])]⟩
 delta aciPrinter_sign_x
 refine oi ?_
 let a0 : St := ⟨[(5, (vS p1)), (4, (.ptr 1000000 0)), (0, (.ptr 1000000 0)), (1, (vS p1))], [(1000000, [(.osl 6000000 53 3 (p0.list.map cGToken)), (vB p0.full)])]⟩
 refine st 2 a0 ?_
 refine callg_step ⟨[(1000000, 1000000)], [(6000000, 6000000)], [], [], [], [(6000000, 6000000)], [], [6000000], []⟩ (m := iPrinter_put_x p0 5 p1) (S' := fun (y : GPrinter) => ⟨(6, (.tup [])) :: a0.env, [(1000000, [(.osl 6000000 53 3 (y.list.map cGToken)), (vB y.full)])]⟩) h (OK_iPrinter_put_x p0 5 p1) (by kernel_rfl) (by kernel_rfl) (by kernel_rfl) (by kernel_rfl) (fun y => by kernel_rfl) (fun y => by kernel_rfl) ?_
 clear h; intro y1 h
 refine ni (retn_wk (s' := ⟨[], [(1000000, [(.osl 6000000 53 3 (y1.list.map cGToken)), (vB y1.full)])]⟩) (wr [(6000000, .old 6000000)] er_nil (br_cons (c0 := [(.osl 6000000 53 3 (y1.list.map cGToken)), (vB y1.full)]) (by kernel_rfl) (vrs_cons (vr_old (t := 6000000) (by kernel_rfl) (by kernel_rfl)) (vrs_cons (vr_same (by kernel_rfl) (by kernel_rfl)) (vrs_nil))) br_nil)) ?_)
 injection h with h; subst h
 exact ret0_step ⟨by kernel_rfl, by kernel_rfl, trivial⟩
theorem OK_iPrinter_comma_x (p0 : GPrinter) (p1 : Int) : FOkB Tryz.prog 84 [(.ptr 1000000 0), (vI p1)] [(1000000, [(.osl 6000000 53 3 (p0.list.map cGToken)), (vB p0.full)])] (fun (y : GPrinter) => (.tup [])) (fun (y : GPrinter) => [(1000000, [(.osl 6000000 53 3 (y.list.map cGToken)), (vB y.full)])]) (iPrinter_comma_x p0 p1) := by
 intro r h
 rw [iPrinter_comma_x] at h
 refine acalls_of_fn triPrinter_comma_x (Nat.le_of_ble_eq_true rfl) (by intro n hn; simp at hn; simp only [NX]; omega) ?_
 show avc Tryz.prog aciPrinter_comma_x (qiPrinter_comma_x _) ⟨[(0, (.ptr 1000000 0)), (1, (vI p1))], [(1000000, [(.osl 6000000 53 3 (p0.list.map cGToken)), (vB p0.full)])]⟩
 delta aciPrinter_comma_x
 refine so ?_
 let a0 : St := ⟨[(5, (vB (decide (0 < p1)))), (4, (vI p1)), (0, (.ptr 1000000 0)), (1, (vI p1))], [(1000000, [(.osl 6000000 53 3 (p0.list.map cGToken)), (vB p0.full)])]⟩
 refine st 2 a0 (nx ?_)
 refine cd h (fun h => ?_) fun h => ?_
 refine oi ?_
 let a1 : St := a0.p [(6, (.ptr 1000000 0))]
 refine st 1 a1 ?_
 refine callg_step ⟨[(1000000, 1000000)], [(6000000, 6000000)], [], [], [], [(6000000, 6000000)], [], [6000000], []⟩ (m := iPrinter_sign_x p0 [44]) (S' := fun (y : GPrinter) => ⟨(7, (.tup [])) :: a1.env, [(1000000, [(.osl 6000000 53 3 (y.list.map cGToken)), (vB y.full)])]⟩) h (OK_iPrinter_sign_x p0 [44]) (by kernel_rfl) (by kernel_rfl) (by kernel_rfl) (by kernel_rfl) (fun y => by kernel_rfl) (fun y => by kernel_rfl) ?_
 clear h; intro y1 h
 refine ni (retn_wk (s' := ⟨[], [(1000000, [(.osl 6000000 53 3 (y1.list.map cGToken)), (vB y1.full)])]⟩) (wr [(6000000, .old 6000000)] er_nil (br_cons (c0 := [(.osl 6000000 53 3 (y1.list.map cGToken)), (vB y1.full)]) (by kernel_rfl) (vrs_cons (vr_old (t := 6000000) (by kernel_rfl) (by kernel_rfl)) (vrs_cons (vr_same (by kernel_rfl) (by kernel_rfl)) (vrs_nil))) br_nil)) ?_)
 injection h with h; subst h
 exact ret0_step ⟨by kernel_rfl, by kernel_rfl, trivial⟩
 refine ki (retn_wk (s' := ⟨[], [(1000000, [(.osl 6000000 53 3 (p0.list.map cGToken)), (vB p0.full)])]⟩) (wr [(6000000, .old 6000000)] er_nil (br_cons (c0 := [(.osl 6000000 53 3 (p0.list.map cGToken)), (vB p0.full)]) (by kernel_rfl) (vrs_cons (vr_old (t := 6000000) (by kernel_rfl) (by kernel_rfl)) (vrs_cons (vr_same (by kernel_rfl) (by kernel_rfl)) (vrs_nil))) br_nil)) ?_)
 injection h with h; subst h
 exact ret0_step ⟨by kernel_rfl, by kernel_rfl, trivial⟩
theorem OK_iPrinter_name_x (p0 : GPrinter) (p1 : (List UInt8)) : FOkB Tryz.prog 85 [(.ptr 1000000 0), (vS p1)] [(1000000, [(.osl 6000000 53 3 (p0.list.map cGToken)), (vB p0.full)])] (fun (y : GPrinter) => (.tup [])) (fun (y : GPrinter) => [(1000000, [(.osl 6000000 53 3 (y.list.map cGToken)), (vB y.full)])]) (iPrinter_name_x p0 p1) := by
 intro r h
 rw [iPrinter_name_x] at h
 refine acalls_of_fn triPrinter_name_x (Nat.le_of_ble_eq_true rfl) (by intro n hn; simp at hn; simp only [NX]; omega) ?_
 show avc Tryz.prog aciPrinter_name_x (qiPrinter_name_x _) ⟨[(0, (.ptr 1000000 0)), (1, (vS p1))], [(1000000, [(.osl 6000000 53 3 (p0.list.map cGToken)), (vB p0.full)])]⟩
 delta aciPrinter_name_x
 refine oi ?_
 let a0 : St := ⟨[(5, (vS p1)), (4, (.ptr 1000000 0)), (0, (.ptr 1000000 0)), (1, (vS p1))], [(1000000, [(.osl 6000000 53 3 (p0.list.map cGToken)), (vB p0.full)])]⟩
 refine st 2 a0 ?_
 refine callg_step ⟨[(1000000, 1000000)], [(6000000, 6000000)], [], [], [], [(6000000, 6000000)], [], [6000000], []⟩ (m := iPrinter_put_x p0 2 p1) (S' := fun (y : GPrinter) => ⟨(6, (.tup [])) :: a0.env, [(1000000, [(.osl 6000000 53 3 (y.list.map cGToken)), (vB y.full)])]⟩) h (OK_iPrinter_put_x p0 2 p1) (by kernel_rfl) (by kernel_rfl) (by kernel_rfl) (by kernel_rfl) (fun y => by kernel_rfl) (fun y => by kernel_rfl) ?_
 clear h; intro y1 h
 refine ni (retn_wk (s' := ⟨[], [(1000000, [(.osl 6000000 53 3 (y1.list.map cGToken)), (vB y1.full)])]⟩) (wr [(6000000, .old 6000000)] er_nil (br_cons (c0 := [(.osl 6000000 53 3 (y1.list.map cGToken)), (vB y1.full)]) (by kernel_rfl) (vrs_cons (vr_old (t := 6000000) (by kernel_rfl) (by kernel_rfl)) (vrs_cons (vr_same (by kernel_rfl) (by kernel_rfl)) (vrs_nil))) br_nil)) ?_)
 injection h with h; subst h
 exact ret0_step ⟨by kernel_rfl, by kernel_rfl, trivial⟩
theorem OK_iTypeText (p0 : Int) : FOk Tryz.prog 87 [(vI p0)] (fun y => (vS y)) (iTypeText p0) := by
 intro r h
 rw [iTypeText] at h
 refine aof triTypeText ?_
 show avc Tryz.prog aciTypeText (qiTypeText _) ⟨[(0, (vI p0))], []⟩
 delta aciTypeText
 refine so ?_
 let a0 : St := ⟨[(2, (vS [])), (0, (vI p0))], []⟩
 refine st 1 a0 (nx (si (so ?_)))
 let a1 : St := a0.p [(5, (vB (decide (p0 < 0)))), (4, (vB (decide (p0 < 0)))), (3, (vI p0))]
 refine st 3 a1 (gp true (decide (p0 < 0)) (vI p0) (fun hc => vl) (gp true (decide (p0 < 0)) (vB (decide (3 < p0))) (fun hc => vg hc) (vs (fun (y : Bool) => (vB y)) h (fun y hy => vop_pickV hy (p := true) (q := (true && ((decide (p0 < 0)) == false))) (by kernel_rfl) (by kernel_rfl) (by kernel_rfl) (by kernel_rfl) (fun _ => rfl) (fun hb => gc_f rfl hb)) fun y1 h => (nx ?_))))
 refine cd h (fun h => ?_) fun h => ?_
 refine so ?_
 let a2 : St := a1.p [(2, (vS [])), (8, (vB y1)), (7, (.ite (true && ((decide (p0 < 0)) == false)) (vB (decide (3 < p0))))), (6, (.ite (true && ((decide (p0 < 0)) == false)) (vI p0)))]
 refine st 1 a2 (nx (ri (tr ?_)))
 injection h with h; subst h
 exact r1 (v := (vS []))
 refine ki (xi (so (bsl_step (l := ([[65, 78, 89], [73, 78, 84], [84, 69, 88, 84], [66, 79, 79, 76]] : List (List UInt8))) (f := cStr) (g := cStr) (by kernel_rfl) (fun _ => rfl) (by kernel_rfl) ?_)))
 let a3 : St := a1.p [(10, (vI p0)), (9, (.osl 9 9 1 (([[65, 78, 89], [73, 78, 84], [84, 69, 88, 84], [66, 79, 79, 76]] : List (List UInt8)).map cStr))), (8, (vB y1)), (7, (.ite (true && ((decide (p0 < 0)) == false)) (vB (decide (3 < p0))))), (6, (.ite (true && ((decide (p0 < 0)) == false)) (vI p0)))]
 refine st 1 a3 (vs (fun (y : (List UInt8)) => (.rp [(.s (bs y))])) h (fun y hy => via (l := ([[65, 78, 89], [73, 78, 84], [84, 69, 88, 84], [66, 79, 79, 76]] : List (List UInt8))) (f := cStr) (g := cStr) (k := .i64) hy (fun _ => rfl)) fun y2 h => ?_)
 let a4 : St := a3.p [(2, (vS y2)), (12, (vS y2)), (11, (.rp [(.s (bs y2))]))]
 refine st 2 a4 (nx (ri ?_))
 injection h with h; subst h
 exact r1 (v := (vS y2))
theorem OKs_iCatalogTokens_L1 (p0 : GCatalog) : (∀ (x13 : Int) (y1 : GTable) (x30 : Int) (b9_0_5 : (List GToken)) (b9_1_6 : Bool) (r : (List GToken)), iCatalogTokens_L1 p0 x13 y1 x30 b9_0_5 b9_1_6 = some r → avc Tryz.prog aciCatalogTokens_L1 (qiCatalogTokens_6 r) (stiCatalogTokens_L1 p0 x13 y1 x30 b9_0_5 b9_1_6)) ∧ (∀ (x13 : Int) (b9_0 : (List GToken)) (b9_1 : Bool) (r : (List GToken)), iCatalogTokens_L0 p0 x13 b9_0 b9_1 = some r → avc Tryz.prog aciCatalogTokens_L0 (qiCatalogTokens_1 r) (stiCatalogTokens_L0 p0 x13 b9_0 b9_1)) := by
 refine iCatalogTokens_L1.mutual_partial_correctness p0 (fun x13 y1 x30 b9_0_5 b9_1_6 r => avc Tryz.prog aciCatalogTokens_L1 (qiCatalogTokens_6 r) (stiCatalogTokens_L1 p0 x13 y1 x30 b9_0_5 b9_1_6)) (fun x13 b9_0 b9_1 r => avc Tryz.prog aciCatalogTokens_L0 (qiCatalogTokens_1 r) (stiCatalogTokens_L0 p0 x13 b9_0 b9_1)) ?_ ?_
 · intro F_iCatalogTokens_L1 F_iCatalogTokens_L0 OK_iCatalogTokens_L1 OK_iCatalogTokens_L0 x13 y1 x30 b9_0_5 b9_1_6 r h
   delta aciCatalogTokens_L1
   refine loop_unroll (so ?_)
   let a13 : St := (stiCatalogTokens_L1 p0 x13 y1 x30 b9_0_5 b9_1_6).p [(31, (vB (decide (x30 < (ln y1.cols)))))]
   refine st 1 a13 (nx (si ?_))
   refine cd h (fun h => ?_) fun h => ?_
   refine ki (xi (si (bi (so ?_))))
   let a14 : St := a13.p [(32, (vI x30))]
   refine st 1 a14 (vs (fun (y : GCol) => (.rp (cGCol y))) h (fun y hy => via (l := y1.cols) (f := cGCol) (g := cGCol) (k := .i64) hy (fun _ => rfl)) fun y7 h => ?_)
   let a15 : St := ⟨(6, (vI x30)) :: (7, (.ptr 7 0)) :: (34, (vGCol y7)) :: (33, (.rp (cGCol y7))) :: a14.env, [(7, bGCol y7), (9, [(.osl 5039500 53 3 (b9_0_5.map cGToken)), (vB b9_1_6)])]⟩
   refine st 4 a15 (nx (so ?_))
   let a16 : St := a15.p [(36, (vI x30)), (35, (.ptr 9 0))]
   refine st 2 a16 ?_
   refine callg_step ⟨[(1000000, 9)], [(6000000, 5039500)], [], [], [], [(6000000, 5039500)], [], [5039500], []⟩ (m := iPrinter_comma_x (GPrinter.mk b9_0_5 b9_1_6) x30) (S' := fun (y : GPrinter) => ⟨(37, (.tup [])) :: a16.env, [(7, bGCol y7), (9, [(.osl 5039500 53 3 (y.list.map cGToken)), (vB y.full)])]⟩) h (OK_iPrinter_comma_x (GPrinter.mk b9_0_5 b9_1_6) x30) (by kernel_rfl) (by kernel_rfl) (by kernel_rfl) (by kernel_rfl) (fun y => by kernel_rfl) (fun y => by kernel_rfl) ?_
   clear h; intro y8 h
   refine nx (so ?_)
   let a17 : St := ⟨(40, (vS y7.name)) :: (39, (.ptr 7 0)) :: (38, (.ptr 9 0)) :: (37, (.tup [])) :: a16.env, [(7, bGCol y7), (9, [(.osl 5039500 53 3 (y8.list.map cGToken)), (vB y8.full)])]⟩
   refine st 3 a17 ?_
   refine callg_step ⟨[(1000000, 9)], [(6000000, 5039500)], [], [], [], [(6000000, 5039500)], [], [5039500], []⟩ (m := iPrinter_name_x y8 y7.name) (S' := fun (y : GPrinter) => ⟨(41, (.tup [])) :: a17.env, [(7, bGCol y7), (9, [(.osl 5039500 53 3 (y.list.map cGToken)), (vB y.full)])]⟩) h (OK_iPrinter_name_x y8 y7.name) (by kernel_rfl) (by kernel_rfl) (by kernel_rfl) (by kernel_rfl) (fun y => by kernel_rfl) (fun y => by kernel_rfl) ?_
   clear h; intro y9 h
   refine nx (oi ?_)
   let a18 : St := ⟨(44, (vI y7.type)) :: (43, (.ptr 7 1)) :: (42, (.ptr 9 0)) :: (41, (.tup [])) :: a17.env, [(7, bGCol y7), (9, [(.osl 5039500 53 3 (y9.list.map cGToken)), (vB y9.full)])]⟩
   refine st 3 a18 (cs h (OK_iTypeText y7.type) fun y10 h => ?_)
   refine callg_step ⟨[(1000000, 9)], [(6000000, 5039500)], [], [], [], [(6000000, 5039500)], [], [5039500], []⟩ (m := iPrinter_name_x y9 y10) (S' := fun (y : GPrinter) => ⟨(46, (.tup [])) :: (45, (vS y10)) :: a18.env, [(7, bGCol y7), (9, [(.osl 5039500 53 3 (y.list.map cGToken)), (vB y.full)])]⟩) h (OK_iPrinter_name_x y9 y10) (by kernel_rfl) (by kernel_rfl) (by kernel_rfl) (by kernel_rfl) (fun y => by kernel_rfl) (fun y => by kernel_rfl) ?_
   clear h; intro y11 h
   refine ni (bn (xi (oi ?_)))
   let a19 : St := ⟨(30, (vI (IntKind.wrap .i64 (x30 + 1)))) :: (47, (vI (IntKind.wrap .i64 (x30 + 1)))) :: (46, (.tup [])) :: (45, (vS y10)) :: a18.env, [(7, bGCol y7), (9, [(.osl 5039500 53 3 (y11.list.map cGToken)), (vB y11.full)])]⟩
   refine st 2 a19 (ni ?_)
   exact loop_back (s' := stiCatalogTokens_L1 p0 x13 y1 (IntKind.wrap .i64 (x30 + 1)) y11.list y11.full) (wr [(5039500, .old 5039500)] (es (es (es (es (es (es (es er_nil))))))) (br_cons (c0 := [(.osl 5039500 53 3 (y11.list.map cGToken)), (vB y11.full)]) (by kernel_rfl) (vrs_cons (vr_old (t := 5039500) (by kernel_rfl) (by kernel_rfl)) (vrs_cons (vr_same (by kernel_rfl) (by kernel_rfl)) (vrs_nil))) br_nil)) (OK_iCatalogTokens_L1 x13 y1 (IntKind.wrap .i64 (x30 + 1)) y11.list y11.full _ h)
   refine ei (te (te (bh (xi (oi ?_)))))
   let a20 : St := a13.p [(48, (.ptr 9 0))]
   refine st 1 a20 ?_
   refine callg_step ⟨[(1000000, 9)], [(6000000, 5039500)], [], [], [], [(6000000, 5039500)], [], [5039500], []⟩ (m := iPrinter_sign_x (GPrinter.mk b9_0_5 b9_1_6) [41]) (S' := fun (y : GPrinter) => ⟨(49, (.tup [])) :: a20.env, [(9, [(.osl 5039500 53 3 (y.list.map cGToken)), (vB y.full)])]⟩) h (OK_iPrinter_sign_x (GPrinter.mk b9_0_5 b9_1_6) [41]) (by kernel_rfl) (by kernel_rfl) (by kernel_rfl) (by kernel_rfl) (fun y => by kernel_rfl) (fun y => by kernel_rfl) ?_
   clear h; intro y12 h
   refine ni (bn (xi (oi ?_)))
   let a21 : St := ⟨(13, (vI (IntKind.wrap .i64 (x13 + 1)))) :: (50, (vI (IntKind.wrap .i64 (x13 + 1)))) :: (49, (.tup [])) :: a20.env, [(9, [(.osl 5039500 53 3 (y12.list.map cGToken)), (vB y12.full)])]⟩
   refine st 2 a21 (ni ?_)
   exact loop_back (s' := stiCatalogTokens_L0 p0 (IntKind.wrap .i64 (x13 + 1)) y12.list y12.full) (wr [(5039500, .old 5039500)] (es (es (es (es er_nil)))) (br_cons (c0 := [(.osl 5039500 53 3 (y12.list.map cGToken)), (vB y12.full)]) (by kernel_rfl) (vrs_cons (vr_old (t := 5039500) (by kernel_rfl) (by kernel_rfl)) (vrs_cons (vr_same (by kernel_rfl) (by kernel_rfl)) (vrs_nil))) br_nil)) (OK_iCatalogTokens_L0 (IntKind.wrap .i64 (x13 + 1)) y12.list y12.full _ h)
 · intro F_iCatalogTokens_L1 OK_iCatalogTokens_L1 x13 b9_0 b9_1 r h
   delta aciCatalogTokens_L0
   refine loop_unroll (so ?_)
   let a4 : St := (stiCatalogTokens_L0 p0 x13 b9_0 b9_1).p [(14, (vB (decide (x13 < (ln p0.tables)))))]
   refine st 1 a4 (nx (si ?_))
   refine cd h (fun h => ?_) fun h => ?_
   refine ki (xi (si (bi (so ?_))))
   let a5 : St := a4.p [(15, (vI x13))]
   refine st 1 a5 (vs (fun (y : GTable) => (.rp (cGTable y))) h (fun y hy => via (l := p0.tables) (f := cGTable) (g := cGTable) (k := .i64) hy (fun _ => rfl)) fun y1 h => ?_)
   let a6 : St := ⟨(4, (vI x13)) :: (5, (.ptr 5 0)) :: (17, (vGTable y1)) :: (16, (.rp (cGTable y1))) :: a5.env, [(5, bGTable y1), (9, [(.osl 5039500 53 3 (b9_0.map cGToken)), (vB b9_1)])]⟩
   refine st 4 a6 (nx (so ?_))
   let a7 : St := a6.p [(19, (vI x13)), (18, (.ptr 9 0))]
   refine st 2 a7 ?_
   refine callg_step ⟨[(1000000, 9)], [(6000000, 5039500)], [], [], [], [(6000000, 5039500)], [], [5039500], []⟩ (m := iPrinter_comma_x (GPrinter.mk b9_0 b9_1) x13) (S' := fun (y : GPrinter) => ⟨(20, (.tup [])) :: a7.env, [(5, bGTable y1), (9, [(.osl 5039500 53 3 (y.list.map cGToken)), (vB y.full)])]⟩) h (OK_iPrinter_comma_x (GPrinter.mk b9_0 b9_1) x13) (by kernel_rfl) (by kernel_rfl) (by kernel_rfl) (by kernel_rfl) (fun y => by kernel_rfl) (fun y => by kernel_rfl) ?_
   clear h; intro y2 h
   refine nx (so ?_)
   let a8 : St := ⟨(23, (vS y1.name)) :: (22, (.ptr 5 0)) :: (21, (.ptr 9 0)) :: (20, (.tup [])) :: a7.env, [(5, bGTable y1), (9, [(.osl 5039500 53 3 (y2.list.map cGToken)), (vB y2.full)])]⟩
   refine st 3 a8 ?_
   refine callg_step ⟨[(1000000, 9)], [(6000000, 5039500)], [], [], [], [(6000000, 5039500)], [], [5039500], []⟩ (m := iPrinter_name_x y2 y1.name) (S' := fun (y : GPrinter) => ⟨(24, (.tup [])) :: a8.env, [(5, bGTable y1), (9, [(.osl 5039500 53 3 (y.list.map cGToken)), (vB y.full)])]⟩) h (OK_iPrinter_name_x y2 y1.name) (by kernel_rfl) (by kernel_rfl) (by kernel_rfl) (by kernel_rfl) (fun y => by kernel_rfl) (fun y => by kernel_rfl) ?_
   clear h; intro y3 h
   refine nx (so ?_)
   let a9 : St := ⟨(25, (.ptr 9 0)) :: (24, (.tup [])) :: a8.env, [(5, bGTable y1), (9, [(.osl 5039500 53 3 (y3.list.map cGToken)), (vB y3.full)])]⟩
   refine st 1 a9 ?_
   refine callg_step ⟨[(1000000, 9)], [(6000000, 5039500)], [], [], [], [(6000000, 5039500)], [], [5039500], []⟩ (m := iPrinter_sign_x y3 [40]) (S' := fun (y : GPrinter) => ⟨(26, (.tup [])) :: a9.env, [(5, bGTable y1), (9, [(.osl 5039500 53 3 (y.list.map cGToken)), (vB y.full)])]⟩) h (OK_iPrinter_sign_x y3 [40]) (by kernel_rfl) (by kernel_rfl) (by kernel_rfl) (by kernel_rfl) (fun y => by kernel_rfl) (fun y => by kernel_rfl) ?_
   clear h; intro y4 h
   refine nx (si (so ?_))
   let a10 : St := ⟨(28, (.d (.sl 2 (y1.cols.map cGCol)))) :: (27, (.ptr 5 1)) :: (26, (.tup [])) :: a9.env, [(5, bGTable y1), (9, [(.osl 5039500 53 3 (y4.list.map cGToken)), (vB y4.full)])]⟩
   refine st 2 a10 (ps (vI (ln y1.cols)) (vln (sz := 2) (l := y1.cols) (f := cGCol)) ?_)
   let a11 : St := a10.p [(30, (vI 0)), (29, (vI (ln y1.cols)))]
   refine st 1 a11 (nx (bi ?_))
   exact loop_go (s' := stiCatalogTokens_L1 p0 x13 y1 0 y4.list y4.full) (wr [(5039500, .old 5039500)] (es (es (es (es (es (es (es er_nil))))))) (br_cons (c0 := [(.osl 5039500 53 3 (y4.list.map cGToken)), (vB y4.full)]) (by kernel_rfl) (vrs_cons (vr_old (t := 5039500) (by kernel_rfl) (by kernel_rfl)) (vrs_cons (vr_same (by kernel_rfl) (by kernel_rfl)) (vrs_nil))) br_nil)) (OK_iCatalogTokens_L1 x13 y1 0 y4.list y4.full _ h)
   refine ei (te (te (bh (xi (so ?_)))))
   let a12 : St := ⟨(2, (.osl 2 53 3 (b9_0.map cGToken))) :: (54, (.d (.sl 3 (b9_0.map cGToken)))) :: (53, (.ptr 9 0)) :: (52, (.ptr 9 0)) :: (51, (.ptr 9 0)) :: a4.env, [(9, bGPrinter (GPrinter.mk b9_0 b9_1))]⟩
   refine st 5 a12 (nx (ret_wk (s' := ⟨[(2, (.osl 2000000 53 3 (b9_0.map cGToken)))], []⟩) (wr [(2000000, .old 2)] (eo 2 er_nil) br_nil) ?_))
   injection h with h; subst h
   exact ret1_step (v := (.osl 2000000 53 3 (b9_0.map cGToken))) (by kernel_rfl) (by kernel_rfl) ⟨by kernel_rfl, trivial⟩
theorem OK_iCatalogTokens_L1 (p0 : GCatalog) (x13 : Int) (y1 : GTable) (x30 : Int) (b9_0_5 : (List GToken)) (b9_1_6 : Bool) (r : (List GToken)) (h : iCatalogTokens_L1 p0 x13 y1 x30 b9_0_5 b9_1_6 = some r) : avc Tryz.prog aciCatalogTokens_L1 (qiCatalogTokens_6 r) (stiCatalogTokens_L1 p0 x13 y1 x30 b9_0_5 b9_1_6) := (OKs_iCatalogTokens_L1 p0).1 x13 y1 x30 b9_0_5 b9_1_6 r h
theorem OK_iCatalogTokens_L0 (p0 : GCatalog) (x13 : Int) (b9_0 : (List GToken)) (b9_1 : Bool) (r : (List GToken)) (h : iCatalogTokens_L0 p0 x13 b9_0 b9_1 = some r) : avc Tryz.prog aciCatalogTokens_L0 (qiCatalogTokens_1 r) (stiCatalogTokens_L0 p0 x13 b9_0 b9_1) := (OKs_iCatalogTokens_L1 p0).2 x13 b9_0 b9_1 r h
theorem OK_iCatalogTokens (p0 : GCatalog) : FOkB Tryz.prog 45 [(vGCatalog p0)] [] (fun (y : (List GToken)) => (.osl 2000000 53 3 (y.map cGToken))) (fun (y : (List GToken)) => []) (iCatalogTokens p0) := by
 intro r h
 rw [iCatalogTokens] at h
 refine aof triCatalogTokens ?_
 show avc Tryz.prog aciCatalogTokens (qiCatalogTokens _) ⟨[(0, (vGCatalog p0))], []⟩
 delta aciCatalogTokens
 refine so ?_
 let a0 : St := ⟨[(2, (.nil 3)), (1, (.ptr 1 0)), (0, (vGCatalog p0))], [(1, bGCatalog p0)]⟩
 refine st 2 a0 (nx (so (bldv_step (c := [(.nil 3), (vB false)]) (s' := ⟨(8, (.agv [(.nil 3), (vB false)])) :: a0.env, a0.bx⟩) (by kernel_rfl) (by kernel_rfl) (by kernel_rfl) ?_)))
 let a1 : St := ⟨(3, (.ptr 9 0)) :: (9, (.ptr 9 0)) :: (8, (.agv [(.nil 3), (vB false)])) :: a0.env, [(9, [(.nil 3), (vB false)]), (1, bGCatalog p0)]⟩
 refine st 2 a1 (nx (si (so ?_)))
 let a2 : St := a1.p [(11, (.d (.sl 2 (p0.tables.map cGTable)))), (10, (.ptr 1 0))]
 refine st 2 a2 (ps (vI (ln p0.tables)) (vln (sz := 2) (l := p0.tables) (f := cGTable)) ?_)
 let a3 : St := a2.p [(13, (vI 0)), (12, (vI (ln p0.tables)))]
 exact st 1 a3 (nx (bi (loop_go (s' := stiCatalogTokens_L0 p0 0 ([] : List GToken) false) (wr [(5039500, .new 53 3)] (es (es (es (es er_nil)))) (br_cons (c0 := [(.nil 3), (vB false)]) (by kernel_rfl) (vrs_cons (vr_new (by kernel_rfl) (by kernel_rfl)) (vrs_cons (vr_same (by kernel_rfl) (by kernel_rfl)) (vrs_nil))) br_nil)) (OK_iCatalogTokens_L0 p0 0 ([] : List GToken) false _ h))))
theorem OK_gStrings_Builder_Len_x (c0_1 : (List Int)) : FOkB Tryz.prog 54 [(.ptr 1000000 0)] [(1000000, [(.bp 1000000 74), (.osl 6000001 5 1 (c0_1.map cU8))])] (fun (y : Int) => (vI y)) (fun (y : Int) => [(1000000, [(.bp 1000000 74), (.osl 6000001 5 1 (c0_1.map cU8))])]) (gStrings_Builder_Len_x c0_1) := by
 intro r h
 rw [gStrings_Builder_Len_x] at h
 refine acalls_of_fn trgStrings_Builder_Len_x (Nat.le_of_ble_eq_true rfl) (by intro n hn; simp at hn; simp only [NX]; omega) ?_
 show avc Tryz.prog acgStrings_Builder_Len_x (qgStrings_Builder_Len_x c0_1 _) ⟨[(0, (.ptr 1000000 0))], [(1000000, [(.bp 1000000 74), (.osl 6000001 5 1 (c0_1.map cU8))])]⟩
 delta acgStrings_Builder_Len_x
 refine so ?_
 let a0 : St := ⟨[(2, (vI 0)), (0, (.ptr 1000000 0))], [(1000000, [(.bp 1000000 74), (.osl 6000001 5 1 (c0_1.map cU8))])]⟩
 refine st 1 a0 (nx (so ?_))
 let a1 : St := a0.p [(6, (.osl 6000001 5 1 (c0_1.map cU8))), (5, (.ptr 1000000 1)), (4, (.ptr 1000000 0)), (3, (.ptr 1000000 0))]
 refine st 4 a1 (ps (vI (ln c0_1)) (vln (sz := 1) (l := c0_1) (f := cU8)) ?_)
 let a2 : St := a1.p [(2, (vI (ln c0_1))), (7, (vI (ln c0_1)))]
 refine st 1 a2 (nx ?_)
 refine ret_wk (s' := ⟨[(2, (vI (ln c0_1)))], [(1000000, [(.bp 1000000 74), (.osl 6000001 5 1 (c0_1.map cU8))])]⟩) (wr [(6000001, .old 6000001)] (es er_nil) (br_cons (c0 := [(.bp 1000000 74), (.osl 6000001 5 1 (c0_1.map cU8))]) (by kernel_rfl) (vrs_cons (vr_same (by kernel_rfl) (by kernel_rfl)) (vrs_cons (vr_old (t := 6000001) (by kernel_rfl) (by kernel_rfl)) (vrs_nil))) br_nil)) ?_
 injection h with h; subst h
 exact ret1_step (v := (vI (ln c0_1))) (by kernel_rfl) (by kernel_rfl) ⟨by kernel_rfl, by kernel_rfl, trivial⟩
theorem OK_gStrings_Builder_String_x (c0_1 : (List Int)) : FOkB Tryz.prog 55 [(.ptr 1000000 0)] [(1000000, [(.bp 1000000 74), (.osl 6000001 5 1 (c0_1.map cU8))])] (fun (y : (List UInt8) × (List Int)) => (vS y.1)) (fun (y : (List UInt8) × (List Int)) => [(1000000, [(.bp 1000000 74), (.d (.sl 1 (y.2.map cU8)))])]) (gStrings_Builder_String_x c0_1) := by
 intro r h
 rw [gStrings_Builder_String_x] at h
 obtain ⟨y, hy, h⟩ := Option.bind_eq_some_iff.1 h
 injection h with h
 subst h
 exact acalls_bstr 1000000 6000001 c0_1 y hy (bstr_of 74 bstr_row_55 bstr_nil_55 bstr_noroom_55 bstr_room_55)
theorem OK_gStrings_Builder_copyCheck_x (c0_1 : (List Int)) : FOkB Tryz.prog 103 [(.ptr 1000000 0)] [(1000000, [(.bp 1000000 74), (.osl 6000001 5 1 (c0_1.map cU8))])] (fun (y : Unit) => (.tup [])) (fun (y : Unit) => [(1000000, [(.bp 1000000 74), (.osl 6000001 5 1 (c0_1.map cU8))])]) (gStrings_Builder_copyCheck_x c0_1) := by
 intro r _
 exact acalls_cc 1000000 [.osl 6000001 5 1 (c0_1.map cU8)] cc_used_103 cc_fresh_103_74 rfl
theorem OK_gStrings_Builder_WriteString_x (c0_1 : (List Int)) (p1 : (List UInt8)) : FOkB Tryz.prog 52 [(.ptr 1000000 0), (vS p1)] [(1000000, [(.bp 1000000 74), (.osl 6000001 5 1 (c0_1.map cU8))])] (fun (y : Int × (List Int)) => (.tup [(vI y.1), .top])) (fun (y : Int × (List Int)) => [(1000000, [(.bp 1000000 74), (.osl 6000001 5 1 (y.2.map cU8))])]) (gStrings_Builder_WriteString_x c0_1 p1) := by
 intro r h
 rw [gStrings_Builder_WriteString_x] at h
 refine acalls_of_fn trgStrings_Builder_WriteString_x (Nat.le_of_ble_eq_true rfl) (by intro n hn; simp at hn; simp only [NX]; omega) ?_
 show avc Tryz.prog acgStrings_Builder_WriteString_x (qgStrings_Builder_WriteString_x _) ⟨[(0, (.ptr 1000000 0)), (1, (vS p1))], [(1000000, [(.bp 1000000 74), (.osl 6000001 5 1 (c0_1.map cU8))])]⟩
 delta acgStrings_Builder_WriteString_x
 refine so ?_
 let a0 : St := ⟨[(5, .top), (4, (vI 0)), (0, (.ptr 1000000 0)), (1, (vS p1))], [(1000000, [(.bp 1000000 74), (.osl 6000001 5 1 (c0_1.map cU8))])]⟩
 refine st 2 a0 (nx (so ?_))
 let a1 : St := a0.p [(6, (.ptr 1000000 0))]
 refine st 1 a1 ?_
 refine callg_step ⟨[(1000000, 1000000)], [(6000001, 6000001)], [], [], [], [(6000001, 6000001)], [], [6000001], []⟩ (m := gStrings_Builder_copyCheck_x c0_1) (S' := fun (y : Unit) => ⟨(7, (.tup [])) :: a1.env, [(1000000, [(.bp 1000000 74), (.osl 6000001 5 1 (c0_1.map cU8))])]⟩) h (OK_gStrings_Builder_copyCheck_x c0_1) (by kernel_rfl) (by kernel_rfl) (by kernel_rfl) (by kernel_rfl) (fun y => by kernel_rfl) (fun y => by kernel_rfl) ?_
 clear h; intro y1 h
 refine nx (so ?_)
 let a2 : St := ⟨(13, (vS p1)) :: (12, (.osl 6000001 5 1 (c0_1.map cU8))) :: (11, (.ptr 1000000 1)) :: (10, (.ptr 1000000 0)) :: (9, (.ptr 1000000 0)) :: (8, (.ptr 1000000 0)) :: (7, (.tup [])) :: a1.env, [(1000000, [(.bp 1000000 74), (.osl 6000001 5 1 (c0_1.map cU8))])]⟩
 refine st 6 a2 ?_
 refine app_step (t := 6000001) (l := c0_1) (m := (toBytes p1)) (f := cU8) (S' := fun y => ⟨[(14, (.osl 14 5 1 (y.map cU8))), (13, (vS p1)), (12, (.d (.sl 1 (c0_1.map cU8)))), (11, (.ptr 1000000 1)), (10, (.ptr 1000000 0)), (9, (.ptr 1000000 0)), (8, (.ptr 1000000 0)), (7, (.tup [])), (6, (.ptr 1000000 0)), (5, .top), (4, (vI 0)), (0, (.ptr 1000000 0)), (1, (vS p1))], [(1000000, [(.bp 1000000 74), (.d (.sl 1 (c0_1.map cU8)))])]⟩) h (by kernel_rfl) (by kernel_rfl) (by kernel_rfl) (by kernel_rfl) (fun y => by kernel_rfl) ?_
 clear h; intro y2 h
 let a3 : St := ⟨[(16, (.ptr 1000000 1)), (15, (.ptr 1000000 0)), (14, (.osl 14 5 1 (y2.map cU8))), (13, (vS p1)), (12, (.d (.sl 1 (c0_1.map cU8)))), (11, (.ptr 1000000 1)), (10, (.ptr 1000000 0)), (9, (.ptr 1000000 0)), (8, (.ptr 1000000 0)), (7, (.tup [])), (6, (.ptr 1000000 0)), (5, .top), (4, (vI 0)), (0, (.ptr 1000000 0)), (1, (vS p1))], [(1000000, [(.bp 1000000 74), (.osl 14 5 1 (y2.map cU8))])]⟩
 refine st 3 a3 (nx (so ?_))
 let a4 : St := a3.p [(5, .top), (4, (vI (ln p1))), (18, (vI (ln p1))), (17, (vS p1))]
 refine st 4 a4 (nx ?_)
 refine ret_wk (s' := ⟨[(4, (vI (ln p1))), (5, .top)], [(1000000, [(.bp 1000000 74), (.osl 6000001 5 1 (y2.map cU8))])]⟩) (wr [(6000001, .old 14)] (es (es er_nil)) (br_cons (c0 := [(.bp 1000000 74), (.osl 14 5 1 (y2.map cU8))]) (by kernel_rfl) (vrs_cons (vr_same (by kernel_rfl) (by kernel_rfl)) (vrs_cons (vr_old (t := 14) (by kernel_rfl) (by kernel_rfl)) (vrs_nil))) br_nil)) ?_
 injection h with h; subst h
 exact retn_step (vs := [(vI (ln p1)), .top]) (by kernel_rfl) ⟨by kernel_rfl, by kernel_rfl, trivial⟩
theorem OK_iIsDigit (p0 : Int) : FOk Tryz.prog 66 [(.d (.i .u8 p0))] (fun y => (vB y)) (iIsDigit p0) := by
 intro r h
 rw [iIsDigit] at h
 refine aof triIsDigit ?_
 show avc Tryz.prog aciIsDigit (qiIsDigit _) ⟨[(0, (.d (.i .u8 p0)))], []⟩
 delta aciIsDigit
 refine so ?_
 let a0 : St := ⟨[(2, (vB false)), (0, (.d (.i .u8 p0)))], []⟩
 refine st 1 a0 (nx (so ?_))
 let a1 : St := a0.p [(5, (vB (decide (48 ≤ p0)))), (4, (vB (decide (48 ≤ p0)))), (3, (.d (.i .u8 p0)))]
 refine st 3 a1 (gp true (decide (48 ≤ p0)) (.d (.i .u8 p0)) (fun hc => vl) (gp true (decide (48 ≤ p0)) (vB (decide (p0 ≤ 57))) (fun hc => vg hc) (vs (fun (y : Bool) => (vB y)) h (fun y hy => vop_pickV hy (p := (true && ((decide (48 ≤ p0)) == true))) (q := true) (by kernel_rfl) (by kernel_rfl) (by kernel_rfl) (by kernel_rfl) (fun hb => gc_t rfl hb) (fun _ => rfl)) fun y1 h => ?_)))
 let a2 : St := a1.p [(2, (vB y1)), (8, (vB y1)), (7, (.ite (true && ((decide (48 ≤ p0)) == true)) (vB (decide (p0 ≤ 57))))), (6, (.ite (true && ((decide (48 ≤ p0)) == true)) (.d (.i .u8 p0))))]
 refine st 1 a2 (nx (ri ?_))
 injection h with h; subst h
 exact r1 (v := (vB y1))
theorem OKs_gSlices_Index_Sstring_string_L0 (p0 : (List (List UInt8))) (p1 : (List UInt8)) : (∀ (x8 : Int) (r : Int), gSlices_Index_Sstring_string_L0 p0 p1 x8 = some r → avc Tryz.prog acgSlices_Index_Sstring_string_L0 (qgSlices_Index_Sstring_string_1 r) (stgSlices_Index_Sstring_string_L0 p0 p1 x8)) := by
 refine gSlices_Index_Sstring_string_L0.partial_correctness p0 p1 (fun x8 r => avc Tryz.prog acgSlices_Index_Sstring_string_L0 (qgSlices_Index_Sstring_string_1 r) (stgSlices_Index_Sstring_string_L0 p0 p1 x8)) ?_
 · intro F_gSlices_Index_Sstring_string_L0 OK_gSlices_Index_Sstring_string_L0 x8 r h
   delta acgSlices_Index_Sstring_string_L0
   refine loop_unroll (so ?_)
   let a3 : St := (stgSlices_Index_Sstring_string_L0 p0 p1 x8).p [(9, (vB (decide (x8 < (ln p0)))))]
   refine st 1 a3 (nx (si ?_))
   refine cd h (fun h => ?_) fun h => ?_
   refine ki (xi (si (bi (so ?_))))
   let a4 : St := a3.p [(5, (vI x8)), (10, (vI x8))]
   refine st 2 a4 (nx (so ?_))
   let a5 : St := a4.p [(13, (vI x8)), (12, (.d (.sl 1 (p0.map cStr)))), (11, (vS p1))]
   refine st 3 a5 (vs (fun (y : (List UInt8)) => (.rp [(.s (bs y))])) h (fun y hy => via (l := p0) (f := cStr) (g := cStr) (k := .i64) hy (fun _ => rfl)) fun y1 h => ?_)
   let a6 : St := a5.p [(16, (vB (decide (p1 = y1)))), (15, (vS y1)), (14, (.rp [(.s (bs y1))]))]
   refine st 2 a6 (nx ?_)
   refine cd h (fun h => ?_) fun h => ?_
   refine so ?_
   let a7 : St := a6.p [(4, (vI x8)), (17, (vI x8))]
   refine st 2 a7 (nx (ri (br (tr (tr (br (tr ?_)))))))
   injection h with h; subst h
   exact r1 (v := (vI x8))
   refine ki (bn (xi (oi ?_)))
   let a8 : St := a6.p [(8, (vI (IntKind.wrap .i64 (x8 + 1)))), (18, (vI (IntKind.wrap .i64 (x8 + 1))))]
   exact st 2 a8 (ni (loop_back (s' := stgSlices_Index_Sstring_string_L0 p0 p1 (IntKind.wrap .i64 (x8 + 1))) (wr [] (es (es (es (es er_nil)))) br_nil) (OK_gSlices_Index_Sstring_string_L0 (IntKind.wrap .i64 (x8 + 1)) _ h)))
   refine ei (te (te (bh (xi (so ?_)))))
   let a9 : St := a3.p [(4, (vI (-1)))]
   refine st 1 a9 (nx (ri ?_))
   injection h with h; subst h
   exact r1 (v := (vI (-1)))
theorem OK_gSlices_Index_Sstring_string_L0 (p0 : (List (List UInt8))) (p1 : (List UInt8)) (x8 : Int) (r : Int) (h : gSlices_Index_Sstring_string_L0 p0 p1 x8 = some r) : avc Tryz.prog acgSlices_Index_Sstring_string_L0 (qgSlices_Index_Sstring_string_1 r) (stgSlices_Index_Sstring_string_L0 p0 p1 x8) := (OKs_gSlices_Index_Sstring_string_L0 p0 p1) x8 r h
theorem OK_gSlices_Index_Sstring_string (p0 : (List (List UInt8))) (p1 : (List UInt8)) : FOk Tryz.prog 113 [(.d (.sl 1 (p0.map cStr))), (vS p1)] (fun y => (vI y)) (gSlices_Index_Sstring_string p0 p1) := by
 intro r h
 rw [gSlices_Index_Sstring_string] at h
 refine aof trgSlices_Index_Sstring_string ?_
 show avc Tryz.prog acgSlices_Index_Sstring_string (qgSlices_Index_Sstring_string _) ⟨[(0, (.d (.sl 1 (p0.map cStr)))), (1, (vS p1))], []⟩
 delta acgSlices_Index_Sstring_string
 refine so ?_
 let a0 : St := ⟨[(4, (vI 0)), (0, (.d (.sl 1 (p0.map cStr)))), (1, (vS p1))], []⟩
 refine st 1 a0 (nx (si (so ?_)))
 let a1 : St := a0.p [(6, (.d (.sl 1 (p0.map cStr))))]
 refine st 1 a1 (ps (vI (ln p0)) (vln (sz := 1) (l := p0) (f := cStr)) ?_)
 let a2 : St := a1.p [(8, (vI 0)), (7, (vI (ln p0)))]
 exact st 1 a2 (nx (bi (loop_go (s' := stgSlices_Index_Sstring_string_L0 p0 p1 0) (wr [] (es (es (es (es er_nil)))) br_nil) (OK_gSlices_Index_Sstring_string_L0 p0 p1 0 _ h))))
theorem OK_iFold_J2 (x3 : (List Int)) (r : (List UInt8)) (h : iFold_J2 x3 = some r) : avc Tryz.prog aciFold_J2 (qiFold r) (stiFold_J2 x3) := by
 rw [iFold_J2] at h
 delta aciFold_J2
 refine so ?_
 let a11 : St := (stiFold_J2 x3).p [(28, (.d (.sl 1 (x3.map cU8))))]
 refine st 1 a11 (vs (fun (y : (List UInt8)) => (vS y)) h (fun y hy => vop_cbs (l := x3) hy (by kernel_rfl) (by kernel_rfl)) fun y3 h => ?_)
 let a12 : St := a11.p [(2, (vS y3)), (29, (vS y3))]
 refine st 1 a12 (nx (ri ?_))
 injection h with h; subst h
 exact r1 (v := (vS y3))
theorem OKs_iFold_J1 (p0 : (List UInt8)) : (∀ (x10 : Int) (b60050000_0 : (List Int)) (r : (List UInt8)), iFold_J1 p0 x10 b60050000_0 = some r → avc Tryz.prog aciFold_J1 (qiFold_2 r) (stiFold_J1 p0 x10 b60050000_0)) ∧ (∀ (x10 : Int) (b60015000_0 : (List Int)) (r : (List UInt8)), iFold_L0 p0 x10 b60015000_0 = some r → avc Tryz.prog aciFold_L0 (qiFold_1 r) (stiFold_L0 p0 x10 b60015000_0)) := by
 refine iFold_J1.mutual_partial_correctness p0 (fun x10 b60050000_0 r => avc Tryz.prog aciFold_J1 (qiFold_2 r) (stiFold_J1 p0 x10 b60050000_0)) (fun x10 b60015000_0 r => avc Tryz.prog aciFold_L0 (qiFold_1 r) (stiFold_L0 p0 x10 b60015000_0)) ?_ ?_
 · intro F_iFold_L0 OK_iFold_L0 x10 b60050000_0 r h
   delta aciFold_J1
   refine oi ?_
   let a10 : St := (stiFold_J1 p0 x10 b60050000_0).p [(10, (vI (IntKind.wrap .i64 (x10 + 1)))), (27, (vI (IntKind.wrap .i64 (x10 + 1))))]
   exact st 2 a10 (ni (loop_back (s' := stiFold_L0 p0 (IntKind.wrap .i64 (x10 + 1)) b60050000_0) (tw [.rn [(60050000, 60015000)]] (wr [] (es (es (es (es er_nil)))) (bs_ br_nil))) (OK_iFold_L0 (IntKind.wrap .i64 (x10 + 1)) b60050000_0 _ h)))
 · intro F_iFold_J1 OK_iFold_J1 x10 b60015000_0 r h
   delta aciFold_L0
   refine loop_unroll (so ?_)
   let a5 : St := (stiFold_L0 p0 x10 b60015000_0).p [(11, (vB (decide (x10 < ((toBytes p0).length : Int)))))]
   refine st 1 a5 (nx (si ?_))
   refine cd h (fun h => ?_) fun h => ?_
   refine ki (xi (si (bi (so ?_))))
   let a6 : St := a5.p [(12, (vI x10))]
   refine st 1 a6 (iat_step (n := 60015000) (k := .i64) (i := x10) (l := b60015000_0) (f := cU8) (g := cU8) [] (S' := fun y => ⟨(13, (.trp 60015000 1 (x10).toNat 0)) :: a6.env, [(60015000, [(.tro 1 (x10).toNat (b60015000_0.map cU8)), (.d (.i .u8 y))])]⟩) h (by kernel_rfl) (by kernel_rfl) (by kernel_rfl) (fun _ => rfl) (by kernel_rfl) (fun y => by kernel_rfl) ?_)
   clear h; intro y1 hiy1 h
   refine ps (.d (.i .u8 y1)) (vop_ldT (n := 60015000) (sz := 1) (i := (x10).toNat) (off := 0) (l := b60015000_0.map cU8) (c := [(.d (.i .u8 y1))]) (by kernel_rfl) (by kernel_rfl) (by kernel_rfl)) ?_
   let a7 : St := ⟨(5, (.d (.i .u8 y1))) :: (4, (vI x10)) :: (14, (.d (.i .u8 y1))) :: (13, (.trp 60015000 1 (x10).toNat 0)) :: a6.env, [(60015000, [(.tro 1 (x10).toNat (b60015000_0.map cU8)), (.d (.i .u8 y1))])]⟩
   refine st 2 a7 (nx (so ?_))
   let a8 : St := a7.p [(17, (vB (decide (97 ≤ y1)))), (16, (vB (decide (97 ≤ y1)))), (15, (.d (.i .u8 y1)))]
   refine st 3 a8 (gp true (decide (97 ≤ y1)) (.d (.i .u8 y1)) (fun hc => vl) (gp true (decide (97 ≤ y1)) (vB (decide (y1 ≤ 122))) (fun hc => vg hc) (vs (fun (y : Bool) => (vB y)) h (fun y hy => vop_pickV hy (p := (true && ((decide (97 ≤ y1)) == true))) (q := true) (by kernel_rfl) (by kernel_rfl) (by kernel_rfl) (by kernel_rfl) (fun hb => gc_t rfl hb) (fun _ => rfl)) fun y2 h => (nx ?_))))
   refine cd h (fun h => ?_) fun h => ?_
   refine oi ?_
   let a9 : St := a8.p [(25, (.d (.i .u8 (IntKind.wrap .u8 ((IntKind.wrap .u8 (y1 - 97)) + 65))))), (24, (.d (.i .u8 (IntKind.wrap .u8 (y1 - 97))))), (23, (.d (.i .u8 y1))), (22, (vI x10)), (21, (.tre 60015000)), (20, (vB y2)), (19, (.ite (true && ((decide (97 ≤ y1)) == true)) (vB (decide (y1 ≤ 122))))), (18, (.ite (true && ((decide (97 ≤ y1)) == true)) (.d (.i .u8 y1))))]
   refine st 5 a9 (iao_step (n := 60015000) (k := .i64) (i := x10) (l := b60015000_0.map cU8) (c := [(.d (.i .u8 y1))]) (by kernel_rfl) (by kernel_rfl) (idx_get hiy1).1 (by kernel_rfl) ?_)
   refine stt_step (n := 60015000) (sz := 1) (i := (x10).toNat) (off := 0) (l := b60015000_0.map cU8) (c := [(.d (.i .u8 y1))]) (s' := ⟨(26, (.trp 60015000 1 (x10).toNat 0)) :: a9.env, [(60015000, [(.tro 1 (x10).toNat (b60015000_0.map cU8)), (.d (.i .u8 (IntKind.wrap .u8 ((IntKind.wrap .u8 (y1 - 97)) + 65))))])]⟩) (by kernel_rfl) (by kernel_rfl) (by kernel_rfl) (by kernel_rfl) (ni (bn ?_))
   exact next_step (s' := stiFold_J1 p0 x10 (b60015000_0.set (x10).toNat (IntKind.wrap .u8 ((IntKind.wrap .u8 (y1 - 97)) + 65)))) (tw [.clo 60015000, .rn [(60015000, 60050000)]] (wr [] (es (es (es (es er_nil)))) (bt_ (R := (b60015000_0.set (x10).toNat (IntKind.wrap .u8 ((IntKind.wrap .u8 (y1 - 97)) + 65))).map cU8) (set_map (l := b60015000_0) (k := (x10).toNat) (x := (IntKind.wrap .u8 ((IntKind.wrap .u8 (y1 - 97)) + 65))) (fun _ => rfl)) br_nil))) (OK_iFold_J1 x10 (b60015000_0.set (x10).toNat (IntKind.wrap .u8 ((IntKind.wrap .u8 (y1 - 97)) + 65))) _ h)
   exact ki (bn (next_step (s' := stiFold_J1 p0 x10 (b60015000_0.set (x10).toNat y1)) (tw [.clo 60015000, .rn [(60015000, 60050000)]] (wr [] (es (es (es (es er_nil)))) (bt_ (R := (b60015000_0.set (x10).toNat y1).map cU8) (set_map (l := b60015000_0) (k := (x10).toNat) (x := y1) (fun _ => rfl)) br_nil))) (OK_iFold_J1 x10 (b60015000_0.set (x10).toNat y1) _ h)))
   exact ei (te (te (bh (next_step (s' := stiFold_J2 b60015000_0) (tw [.frz [60015000]] (wr [] (es er_nil) br_nil)) (OK_iFold_J2 b60015000_0 _ h)))))
theorem OK_iFold_J1 (p0 : (List UInt8)) (x10 : Int) (b60050000_0 : (List Int)) (r : (List UInt8)) (h : iFold_J1 p0 x10 b60050000_0 = some r) : avc Tryz.prog aciFold_J1 (qiFold_2 r) (stiFold_J1 p0 x10 b60050000_0) := (OKs_iFold_J1 p0).1 x10 b60050000_0 r h
theorem OK_iFold_L0 (p0 : (List UInt8)) (x10 : Int) (b60015000_0 : (List Int)) (r : (List UInt8)) (h : iFold_L0 p0 x10 b60015000_0 = some r) : avc Tryz.prog aciFold_L0 (qiFold_1 r) (stiFold_L0 p0 x10 b60015000_0) := (OKs_iFold_J1 p0).2 x10 b60015000_0 r h
theorem OK_iFold (p0 : (List UInt8)) : FOk Tryz.prog 68 [(vS p0)] (fun y => (vS y)) (iFold p0) := by
 intro r h
 rw [iFold] at h
 refine aof triFold ?_
 show avc Tryz.prog aciFold (qiFold _) ⟨[(0, (vS p0))], []⟩
 delta aciFold
 refine so ?_
 let a0 : St := ⟨[(2, (vS [])), (0, (vS p0))], []⟩
 refine st 1 a0 (nx (so ?_))
 let a1 : St := a0.p [(6, (vS p0))]
 refine st 1 a1 (csb_step (b := p0) (s' := ⟨(7, (.tre 7)) :: a1.env, [(7, [(.trc 1 ((toBytes p0).map cU8))])]⟩) (by kernel_rfl) (by kernel_rfl) (by kernel_rfl) ?_)
 let a2 : St := ⟨(3, (.tre 7)) :: (7, (.tre 7)) :: a1.env, [(7, [(.trc 1 ((toBytes p0).map cU8))])]⟩
 refine st 1 a2 (nx (si (so ?_)))
 let a3 : St := a2.p [(8, (.tre 7))]
 refine st 1 a3 (ps (vI ((toBytes p0).length : Int)) (vop_lenT (n := 7) (l := (toBytes p0).map cU8) (L := (toBytes p0).length) (by kernel_rfl) (by kernel_rfl) (List.length_map ..)) ?_)
 let a4 : St := a3.p [(10, (vI 0)), (9, (vI ((toBytes p0).length : Int)))]
 exact st 1 a4 (nx (bi (loop_go (s' := stiFold_L0 p0 0 (toBytes p0)) (tw [.rn [(7, 60015000)]] (wr [] (es (es (es (es er_nil)))) (bs_ br_nil))) (OK_iFold_L0 p0 0 (toBytes p0) _ h))))
theorem OK_gStrings_Split (p0 : (List UInt8)) (p1 : (List UInt8)) : FOk Tryz.prog 144 [(vS p0), (vS p1)] (fun y => (.d (.sl 1 (y.map cStr)))) (gStrings_Split p0 p1) := by
 intro r h
 rw [gStrings_Split] at h
 exact acalls_split (ρ := sh146_ren) sh146 (by kernel_rfl) (by kernel_rfl) (by kernel_rfl) (.tail _ (.head _)) p0 p1 r h
theorem OK_iKeywords : FOk Tryz.prog 114 [] (fun y => (.d (.sl 1 (y.map cStr)))) (iKeywords) := by
 intro r h
 rw [iKeywords] at h
 refine aof triKeywords ?_
 show avc Tryz.prog aciKeywords (qiKeywords _) ⟨[], []⟩
 delta aciKeywords
 refine so ?_
 let a0 : St := ⟨[(0, (.nil 1))], []⟩
 refine st 1 a0 (nx (so ?_))
 refine cs h (OK_gStrings_Split [83, 69, 76, 69, 67, 84, 32, 68, 73, 83, 84, 73, 78, 67, 84, 32, 70, 82, 79, 77, 32, 74, 79, 73, 78, 32, 79, 78, 32, 87, 72, 69, 82, 69, 32, 79, 82, 68, 69, 82, 32, 66, 89, 32, 65, 83, 67, 32, 68, 69, 83, 67, 32, 76, 73, 77, 73, 84, 32, 65, 83, 32, 65, 78, 68, 32, 79, 82, 32, 78, 79, 84, 32, 73, 83, 32, 73, 78, 32, 66, 69, 84, 87, 69, 69, 78, 32, 69, 88, 73, 83, 84, 83, 32, 78, 85, 76, 76, 32, 84, 82, 85, 69, 32, 70, 65, 76, 83, 69, 32, 73, 78, 83, 69, 82, 84, 32, 73, 78, 84, 79, 32, 86, 65, 76, 85, 69, 83, 32, 85, 80, 68, 65, 84, 69, 32, 83, 69, 84, 32, 68, 69, 76, 69, 84, 69] [32]) fun y1 h => ?_
 let a1 : St := a0.p [(0, (.d (.sl 1 (y1.map cStr)))), (1, (.d (.sl 1 (y1.map cStr))))]
 refine st 1 a1 (nx (ri ?_))
 have h := Option.some.inj h; subst h
 exact r1 (v := (.d (.sl 1 (y1.map cStr))))
theorem OK_iKeyOf (p0 : (List UInt8)) : FOk Tryz.prog 67 [(vS p0)] (fun y => (vI y)) (iKeyOf p0) := by
 intro r h
 rw [iKeyOf] at h
 refine aof triKeyOf ?_
 show avc Tryz.prog aciKeyOf (qiKeyOf _) ⟨[(0, (vS p0))], []⟩
 delta aciKeyOf
 refine so ?_
 let a0 : St := ⟨[(2, (vI 0)), (0, (vS p0))], []⟩
 refine st 1 a0 (nx (so (cs h (OK_iKeywords) fun y1 h => ?_)))
 let a1 : St := a0.p [(4, (vS p0)), (3, (.d (.sl 1 (y1.map cStr))))]
 refine st 1 a1 (cs h (OK_iFold p0) fun y2 h => (cs h (OK_gSlices_Index_Sstring_string y1 y2) fun y3 h => ?_))
 let a2 : St := a1.p [(2, (vI (IntKind.wrap .i64 (y3 + 1)))), (7, (vI (IntKind.wrap .i64 (y3 + 1)))), (6, (vI y3)), (5, (vS y2))]
 refine st 2 a2 (nx (ri ?_))
 have h := Option.some.inj h; subst h
 exact r1 (v := (vI (IntKind.wrap .i64 (y3 + 1))))
theorem OK_iIsStart (p0 : Int) : FOk Tryz.prog 112 [(.d (.i .u8 p0))] (fun y => (vB y)) (iIsStart p0) := by
 intro r h
 rw [iIsStart] at h
 refine aof triIsStart ?_
 show avc Tryz.prog aciIsStart (qiIsStart _) ⟨[(0, (.d (.i .u8 p0)))], []⟩
 delta aciIsStart
 refine so ?_
 let a0 : St := ⟨[(2, (vB false)), (0, (.d (.i .u8 p0)))], []⟩
 refine st 1 a0 (nx (so ?_))
 let a1 : St := a0.p [(5, (vB (decide (97 ≤ p0)))), (4, (vB (decide (97 ≤ p0)))), (3, (.d (.i .u8 p0)))]
 refine st 3 a1 (gp true (decide (97 ≤ p0)) (.d (.i .u8 p0)) (fun hc => vl) (gp true (decide (97 ≤ p0)) (vB (decide (p0 ≤ 122))) (fun hc => vg hc) (vs (fun (y : Bool) => (vB y)) h (fun y hy => vop_pickV hy (p := (true && ((decide (97 ≤ p0)) == true))) (q := true) (by kernel_rfl) (by kernel_rfl) (by kernel_rfl) (by kernel_rfl) (fun hb => gc_t rfl hb) (fun _ => rfl)) fun y1 h => ?_)))
 let a2 : St := a1.p [(9, (vB y1)), (8, (vB y1)), (7, (.ite (true && ((decide (97 ≤ p0)) == true)) (vB (decide (p0 ≤ 122))))), (6, (.ite (true && ((decide (97 ≤ p0)) == true)) (.d (.i .u8 p0))))]
 refine st 1 a2 (gp true y1 (.d (.i .u8 p0)) (fun hc => vl) (gp true y1 (vB (decide (65 ≤ p0))) (fun hc => vg hc) (gp true y1 (vB (decide (65 ≤ p0))) (fun hc => vg hc) (gp (true && (y1 == false)) (decide (65 ≤ p0)) (.d (.i .u8 p0)) (fun hc => vl) (gp (true && (y1 == false)) (decide (65 ≤ p0)) (vB (decide (p0 ≤ 90))) (fun hc => vg hc) ?_)))))
 refine gv true y1 (fun (y : Bool) => (vB y)) h (fun y hy hc => vop_pickV hy (p := ((true && (y1 == false)) && ((decide (65 ≤ p0)) == true))) (q := true) (Eq.trans (b := ([(true && (y1 == false))] : List Bool).all id) (by kernel_rfl) (all_c hc rfl)) (by kernel_rfl) (by kernel_rfl) (by kernel_rfl) (fun hb => gc_t hc hb) (fun _ => rfl)) fun y2 h => ?_
 refine vs (fun (y : Bool) => (vB y)) h (fun y hy => vop_pickV hy (p := true) (q := (true && (y1 == false))) (by kernel_rfl) (by kernel_rfl) (by kernel_rfl) (by kernel_rfl) (fun _ => rfl) (fun hb => gc_f rfl hb)) fun y3 h => ?_
 let a3 : St := a2.p [(17, (vB y3)), (16, (vB y3)), (15, (.ite (gF y1) (vB y2))), (14, (.ite ((gF y1) && ((decide (65 ≤ p0)) == true)) (vB (decide (p0 ≤ 90))))), (13, (.ite ((gF y1) && ((decide (65 ≤ p0)) == true)) (.d (.i .u8 p0)))), (12, (.ite (gF y1) (vB (decide (65 ≤ p0))))), (11, (.ite (gF y1) (vB (decide (65 ≤ p0))))), (10, (.ite (gF y1) (.d (.i .u8 p0))))]
 refine st 1 a3 (gp true y3 (.d (.i .u8 p0)) (fun hc => vl) (gp true y3 (vB (decide (p0 = 95))) (fun hc => vg hc) (vs (fun (y : Bool) => (vB y)) h (fun y hy => vop_pickV hy (p := true) (q := (true && (y3 == false))) (by kernel_rfl) (by kernel_rfl) (by kernel_rfl) (by kernel_rfl) (fun _ => rfl) (fun hb => gc_f rfl hb)) fun y4 h => ?_)))
 let a4 : St := a3.p [(2, (vB y4)), (20, (vB y4)), (19, (.ite (gF y3) (vB (decide (p0 = 95))))), (18, (.ite (gF y3) (.d (.i .u8 p0))))]
 refine st 1 a4 (nx (ri ?_))
 injection h with h; subst h
 exact r1 (v := (vB y4))
theorem OK_iIsPart (p0 : Int) : FOk Tryz.prog 65 [(.d (.i .u8 p0))] (fun y => (vB y)) (iIsPart p0) := by
 intro r h
 rw [iIsPart] at h
 refine aof triIsPart ?_
 show avc Tryz.prog aciIsPart (qiIsPart _) ⟨[(0, (.d (.i .u8 p0)))], []⟩
 delta aciIsPart
 refine so ?_
 let a0 : St := ⟨[(2, (vB false)), (0, (.d (.i .u8 p0)))], []⟩
 refine st 1 a0 (nx (so ?_))
 let a1 : St := a0.p [(3, (.d (.i .u8 p0)))]
 refine st 1 a1 (cs h (OK_iIsStart p0) fun y1 h => ?_)
 let a2 : St := a1.p [(5, (vB y1)), (4, (vB y1))]
 refine st 1 a2 (gp true y1 (.d (.i .u8 p0)) (fun hc => vl) (gcall_step (p := true) (b := y1) (m := iIsDigit p0) (dflt := default) (args := [(.d (.i .u8 p0))]) (v' := (fun y => (vB y))) h (by kernel_rfl) (OK_iIsDigit p0) (fun hc => by kernel_rfl) (by kernel_rfl) (fun _ => rfl) (fun hc => (Eq.trans (b := ([(true && (y1 == false))] : List Bool).all id) (by kernel_rfl) (all_c hc rfl))) ?_))
 clear h; intro y2 h
 refine vs (fun (y : Bool) => (vB y)) h (fun y hy => vop_pickV hy (p := true) (q := (true && (y1 == false))) (by kernel_rfl) (by kernel_rfl) (by kernel_rfl) (by kernel_rfl) (fun _ => rfl) (fun hb => gc_f rfl hb)) fun y3 h => ?_
 let a3 : St := a2.p [(2, (vB y3)), (8, (vB y3)), (7, (.ite (gF y1) (vB y2))), (6, (.ite (gF y1) (.d (.i .u8 p0))))]
 refine st 1 a3 (nx (ri ?_))
 injection h with h; subst h
 exact r1 (v := (vB y3))
theorem OKs_iPlainName_L0 (p0 : (List UInt8)) : (∀ (x19 : Int) (r : Bool), iPlainName_L0 p0 x19 = some r → avc Tryz.prog aciPlainName_L0 (qiPlainName_1 r) (stiPlainName_L0 p0 x19)) := by
 refine iPlainName_L0.partial_correctness p0 (fun x19 r => avc Tryz.prog aciPlainName_L0 (qiPlainName_1 r) (stiPlainName_L0 p0 x19)) ?_
 · intro F_iPlainName_L0 OK_iPlainName_L0 x19 r h
   delta aciPlainName_L0
   refine loop_unroll (so ?_)
   let a6 : St := (stiPlainName_L0 p0 x19).p [(20, (vB (decide (x19 < (ln p0)))))]
   refine st 1 a6 (nx (si ?_))
   refine cd h (fun h => ?_) fun h => ?_
   refine ki (xi (si (bi (so ?_))))
   let a7 : St := a6.p [(3, (vI x19)), (21, (vI x19))]
   refine st 2 a7 (nx (so ?_))
   let a8 : St := a7.p [(23, (vI x19)), (22, (vS p0))]
   refine st 2 a8 (vs (fun (y : Int) => (.d (.i .u8 y))) h (fun y hy => vop_ix (b := p0) (k := .i64) hy (by kernel_rfl) (by kernel_rfl) (by kernel_rfl)) fun y7 h => (cs h (OK_iIsPart y7) fun y8 h => ?_))
   let a9 : St := a8.p [(26, (vB (!y8))), (25, (vB y8)), (24, (.d (.i .u8 y7)))]
   refine st 1 a9 (nx ?_)
   refine cd h (fun h => ?_) fun h => ?_
   refine so ?_
   let a10 : St := a9.p [(2, (vB false))]
   refine st 1 a10 (nx (ri (br (tr (tr (br (tr ?_)))))))
   injection h with h; subst h
   exact r1 (v := (vB false))
   refine ki (bn (xi (oi ?_)))
   let a11 : St := a9.p [(19, (vI (IntKind.wrap .i64 (x19 + 1)))), (27, (vI (IntKind.wrap .i64 (x19 + 1))))]
   exact st 2 a11 (ni (loop_back (s' := stiPlainName_L0 p0 (IntKind.wrap .i64 (x19 + 1))) (wr [] (es (es (es er_nil))) br_nil) (OK_iPlainName_L0 (IntKind.wrap .i64 (x19 + 1)) _ h)))
   refine ei (te (te (bh (xi (so ?_)))))
   let a12 : St := a6.p [(2, (vB true))]
   refine st 1 a12 (nx (ri ?_))
   injection h with h; subst h
   exact r1 (v := (vB true))
theorem OK_iPlainName_L0 (p0 : (List UInt8)) (x19 : Int) (r : Bool) (h : iPlainName_L0 p0 x19 = some r) : avc Tryz.prog aciPlainName_L0 (qiPlainName_1 r) (stiPlainName_L0 p0 x19) := (OKs_iPlainName_L0 p0) x19 r h
theorem OK_iPlainName (p0 : (List UInt8)) : FOk Tryz.prog 106 [(vS p0)] (fun y => (vB y)) (iPlainName p0) := by
 intro r h
 rw [iPlainName] at h
 refine aof triPlainName ?_
 show avc Tryz.prog aciPlainName (qiPlainName _) ⟨[(0, (vS p0))], []⟩
 delta aciPlainName
 refine so ?_
 let a0 : St := ⟨[(2, (vB false)), (0, (vS p0))], []⟩
 refine st 1 a0 (nx (si (so ?_)))
 let a1 : St := a0.p [(4, (vS p0))]
 refine st 1 a1 (cs h (OK_iNameOk p0) fun y1 h => ?_)
 let a2 : St := a1.p [(7, (vB (!y1))), (6, (vB (!y1))), (5, (vB y1))]
 refine st 2 a2 (gp true (!y1) (vS p0) (fun hc => vl) (gv true (!y1) (fun (y : Int) => (.d (.i .u8 y))) h (fun y hy hc => vop_ix (b := p0) (k := .i64) hy (Eq.trans (b := ([(true && ((!y1) == false))] : List Bool).all id) (by kernel_rfl) (all_c hc rfl)) (by kernel_rfl) (by kernel_rfl)) fun y2 h => ?_))
 refine gcall_step (p := true) (b := (!y1)) (m := iIsDigit y2) (dflt := default) (args := [(.d (.i .u8 y2))]) (v' := (fun y => (vB y))) h (by kernel_rfl) (OK_iIsDigit y2) (fun hc => by kernel_rfl) (by kernel_rfl) (fun _ => rfl) (fun hc => (Eq.trans (b := ([(true && ((!y1) == false))] : List Bool).all id) (by kernel_rfl) (all_c hc rfl))) ?_
 clear h; intro y3 h
 refine vs (fun (y : Bool) => (vB y)) h (fun y hy => vop_pickV hy (p := true) (q := (true && ((!y1) == false))) (by kernel_rfl) (by kernel_rfl) (by kernel_rfl) (by kernel_rfl) (fun _ => rfl) (fun hb => gc_f rfl hb)) fun y4 h => ?_
 let a3 : St := a2.p [(12, (vB y4)), (11, (vB y4)), (10, (.ite (true && ((!y1) == false)) (vB y3))), (9, (.ite (true && ((!y1) == false)) (.d (.i .u8 y2)))), (8, (.ite (true && ((!y1) == false)) (vS p0)))]
 refine st 1 a3 (gp true y4 (vS p0) (fun hc => vl) (gcall_step (p := true) (b := y4) (m := iKeyOf p0) (dflt := default) (args := [(vS p0)]) (v' := (fun y => (vI y))) h (by kernel_rfl) (OK_iKeyOf p0) (fun hc => by kernel_rfl) (by kernel_rfl) (fun _ => rfl) (fun hc => (Eq.trans (b := ([(true && (y4 == false))] : List Bool).all id) (by kernel_rfl) (all_c hc rfl))) ?_))
 clear h; intro y5 h
 refine gp true y4 (vB (!decide (y5 = 0))) (fun hc => vg hc) (vs (fun (y : Bool) => (vB y)) h (fun y hy => vop_pickV hy (p := true) (q := (true && (y4 == false))) (by kernel_rfl) (by kernel_rfl) (by kernel_rfl) (by kernel_rfl) (fun _ => rfl) (fun hb => gc_f rfl hb)) fun y6 h => (nx ?_))
 refine cd h (fun h => ?_) fun h => ?_
 refine so ?_
 let a4 : St := a3.p [(2, (vB false)), (16, (vB y6)), (15, (.ite (gF y4) (vB (!decide (y5 = 0))))), (14, (.ite (gF y4) (vI y5))), (13, (.ite (gF y4) (vS p0)))]
 refine st 1 a4 (nx (ri (tr ?_)))
 injection h with h; subst h
 exact r1 (v := (vB false))
 refine ki (xi (si (so ?_)))
 let a5 : St := a3.p [(19, (vI 0)), (18, (vI (ln p0))), (17, (vS p0)), (16, (vB y6)), (15, (.ite (gF y4) (vB (!decide (y5 = 0))))), (14, (.ite (gF y4) (vI y5))), (13, (.ite (gF y4) (vS p0)))]
 exact st 3 a5 (nx (bi (loop_go (s' := stiPlainName_L0 p0 0) (wr [] (es (es (es er_nil))) br_nil) (OK_iPlainName_L0 p0 0 _ h))))
theorem OK_gStrings_ReplaceAll (p0 : (List UInt8)) (p1 : (List UInt8)) (p2 : (List UInt8)) : FOk Tryz.prog 153 [(vS p0), (vS p1), (vS p2)] (fun y => (vS y)) (gStrings_ReplaceAll p0 p1 p2) := by
 intro r h
 rw [gStrings_ReplaceAll] at h
 exact acalls_repl (ρ := sh155_ren) sh155 sh155_X (by kernel_rfl) (by kernel_rfl) (.tail _ (.head _)) p0 p1 p2 r h
theorem OK_iQuoted (p0 : (List UInt8)) (p1 : (List UInt8)) : FOk Tryz.prog 138 [(vS p0), (vS p1)] (fun y => (vS y)) (iQuoted p0 p1) := by
 intro r h
 rw [iQuoted] at h
 refine aof triQuoted ?_
 show avc Tryz.prog aciQuoted (qiQuoted _) ⟨[(0, (vS p0)), (1, (vS p1))], []⟩
 delta aciQuoted
 refine so ?_
 let a0 : St := ⟨[(4, (vS [])), (0, (vS p0)), (1, (vS p1))], []⟩
 refine st 1 a0 (nx (so ?_))
 let a1 : St := a0.p [(9, (vS p1)), (8, (vS p1)), (7, (vS p1)), (6, (vS p0)), (5, (vS p1))]
 refine st 5 a1 (vs (fun (y : (List UInt8)) => (vS y)) h (fun y hy => vop_cat (a := p1) (b := p1) hy (by kernel_rfl) (by kernel_rfl) (by kernel_rfl)) fun y1 h => (cs h (OK_gStrings_ReplaceAll p0 p1 y1) fun y2 h => (vs (fun (y : (List UInt8)) => (vS y)) h (fun y hy => vop_cat (a := p1) (b := y2) hy (by kernel_rfl) (by kernel_rfl) (by kernel_rfl)) fun y3 h => ?_)))
 let a2 : St := a1.p [(13, (vS p1)), (12, (vS y3)), (11, (vS y2)), (10, (vS y1))]
 refine st 1 a2 (vs (fun (y : (List UInt8)) => (vS y)) h (fun y hy => vop_cat (a := y3) (b := p1) hy (by kernel_rfl) (by kernel_rfl) (by kernel_rfl)) fun y4 h => ?_)
 let a3 : St := a2.p [(4, (vS y4)), (14, (vS y4))]
 refine st 1 a3 (nx (ri ?_))
 injection h with h; subst h
 exact r1 (v := (vS y4))
theorem OK_iNameText (p0 : (List UInt8)) : FOk Tryz.prog 104 [(vS p0)] (fun y => (vS y)) (iNameText p0) := by
 intro r h
 rw [iNameText] at h
 refine aof triNameText ?_
 show avc Tryz.prog aciNameText (qiNameText _) ⟨[(0, (vS p0))], []⟩
 delta aciNameText
 refine so ?_
 let a0 : St := ⟨[(2, (vS [])), (0, (vS p0))], []⟩
 refine st 1 a0 (nx (si (bi (so ?_))))
 let a1 : St := a0.p [(4, (vS p0))]
 refine st 1 a1 (cs h (OK_iNameOk p0) fun y1 h => ?_)
 let a2 : St := a1.p [(3, (vB (!y1))), (6, (vB (!y1))), (5, (vB y1))]
 refine st 2 a2 (nx ?_)
 refine cd h (fun h => ?_) fun h => ?_
 refine so ?_
 let a3 : St := a2.p [(2, (vS []))]
 refine st 1 a3 (nx (ri (br (tr ?_))))
 injection h with h; subst h
 exact r1 (v := (vS []))
 refine so ?_
 let a4 : St := a2.p [(8, (vS p0))]
 refine st 1 a4 (cs h (OK_iPlainName p0) fun y2 h => ?_)
 let a5 : St := a4.p [(7, (vB y2)), (9, (vB y2))]
 refine st 1 a5 (nx ?_)
 refine cd h (fun h => ?_) fun h => ?_
 refine so ?_
 let a6 : St := a5.p [(2, (vS p0)), (10, (vS p0))]
 refine st 2 a6 (nx (ri (br (tr ?_))))
 injection h with h; subst h
 exact r1 (v := (vS p0))
 refine ki (bn (xi (so ?_)))
 let a7 : St := a5.p [(11, (vS p0))]
 refine st 1 a7 (cs h (OK_iQuoted p0 [34]) fun y3 h => ?_)
 let a8 : St := a7.p [(2, (vS y3)), (12, (vS y3))]
 refine st 1 a8 (nx (ri ?_))
 injection h with h; subst h
 exact r1 (v := (vS y3))
theorem OK_iQuoteText (p0 : (List UInt8)) : FOk Tryz.prog 105 [(vS p0)] (fun y => (vS y)) (iQuoteText p0) := by
 intro r h
 rw [iQuoteText] at h
 refine aof triQuoteText ?_
 show avc Tryz.prog aciQuoteText (qiQuoteText _) ⟨[(0, (vS p0))], []⟩
 delta aciQuoteText
 refine so ?_
 let a0 : St := ⟨[(2, (vS [])), (0, (vS p0))], []⟩
 refine st 1 a0 (nx (so ?_))
 let a1 : St := a0.p [(3, (vS p0))]
 refine st 1 a1 (cs h (OK_iQuoted p0 [39]) fun y1 h => ?_)
 let a2 : St := a1.p [(2, (vS y1)), (4, (vS y1))]
 refine st 1 a2 (nx (ri ?_))
 injection h with h; subst h
 exact r1 (v := (vS y1))
theorem OK_iNumber (p0 : (List UInt8)) : FOk Tryz.prog 101 [(vS p0)] (fun y => (.tup [(vI y.1), (vB y.2)])) (iNumber p0) := by
 intro r h
 rw [iNumber] at h
 exact acalls_number number_walk_101 (.tail _ (.tail _ (.head _))) (.tail _ (.tail _ (.tail _ (.head _)))) (.head _) p0 r h
theorem OK_gSlices_Contains_Sstring_string (p0 : (List (List UInt8))) (p1 : (List UInt8)) : FOk Tryz.prog 136 [(.d (.sl 1 (p0.map cStr))), (vS p1)] (fun y => (vB y)) (gSlices_Contains_Sstring_string p0 p1) := by
 intro r h
 rw [gSlices_Contains_Sstring_string] at h
 refine aof trgSlices_Contains_Sstring_string ?_
 show avc Tryz.prog acgSlices_Contains_Sstring_string (qgSlices_Contains_Sstring_string _) ⟨[(0, (.d (.sl 1 (p0.map cStr)))), (1, (vS p1))], []⟩
 delta acgSlices_Contains_Sstring_string
 refine so ?_
 let a0 : St := ⟨[(4, (vB false)), (0, (.d (.sl 1 (p0.map cStr)))), (1, (vS p1))], []⟩
 refine st 1 a0 (nx (so ?_))
 let a1 : St := a0.p [(6, (vS p1)), (5, (.d (.sl 1 (p0.map cStr))))]
 refine st 2 a1 (cs h (OK_gSlices_Index_Sstring_string p0 p1) fun y1 h => ?_)
 let a2 : St := a1.p [(4, (vB (decide (0 ≤ y1)))), (8, (vB (decide (0 ≤ y1)))), (7, (vI y1))]
 refine st 2 a2 (nx (ri ?_))
 injection h with h; subst h
 exact r1 (v := (vB (decide (0 ≤ y1))))
theorem OK_iSigns : FOkB Tryz.prog 70 [] [] (fun (y : (List (List UInt8))) => (.osl 2000000 9 1 (y.map cStr))) (fun (y : (List (List UInt8))) => []) (iSigns) := by
 intro r h
 rw [iSigns] at h
 refine aof triSigns ?_
 show avc Tryz.prog aciSigns (qiSigns _) ⟨[], []⟩
 delta aciSigns
 refine so ?_
 let a0 : St := ⟨[(0, (.nil 1))], []⟩
 refine st 1 a0 (nx (so (bsl_step (l := ([[40], [41], [44], [46], [42], [43], [45], [47], [37], [61], [60, 62], [60], [60, 61], [62], [62, 61], [124, 124]] : List (List UInt8))) (f := cStr) (g := cStr) (by kernel_rfl) (fun _ => rfl) (by kernel_rfl) ?_)))
 let a1 : St := a0.p [(0, (.osl 0 9 1 (([[40], [41], [44], [46], [42], [43], [45], [47], [37], [61], [60, 62], [60], [60, 61], [62], [62, 61], [124, 124]] : List (List UInt8)).map cStr))), (1, (.d (.sl 1 (([[40], [41], [44], [46], [42], [43], [45], [47], [37], [61], [60, 62], [60], [60, 61], [62], [62, 61], [124, 124]] : List (List UInt8)).map cStr))))]
 refine st 1 a1 (nx (ret_wk (s' := ⟨[(0, (.osl 2000000 9 1 (([[40], [41], [44], [46], [42], [43], [45], [47], [37], [61], [60, 62], [60], [60, 61], [62], [62, 61], [124, 124]] : List (List UInt8)).map cStr)))], []⟩) (wr [(2000000, .old 0)] (eo 0 er_nil) br_nil) ?_))
 injection h with h; subst h
 exact ret1_step (v := (.osl 2000000 9 1 (([[40], [41], [44], [46], [42], [43], [45], [47], [37], [61], [60, 62], [60], [60, 61], [62], [62, 61], [124, 124]] : List (List UInt8)).map cStr))) (by kernel_rfl) (by kernel_rfl) ⟨by kernel_rfl, trivial⟩
theorem OK_iSignOk (p0 : (List UInt8)) : FOk Tryz.prog 102 [(vS p0)] (fun y => (vB y)) (iSignOk p0) := by
 intro r h
 rw [iSignOk] at h
 refine aof triSignOk ?_
 show avc Tryz.prog aciSignOk (qiSignOk _) ⟨[(0, (vS p0))], []⟩
 delta aciSignOk
 refine so ?_
 let a0 : St := ⟨[(2, (vB false)), (0, (vS p0))], []⟩
 refine st 1 a0 (nx (so (callg_step ⟨[], [], [], [], [], [(2000000, 3)], [], [3], []⟩ (m := iSigns) (S' := fun (y : (List (List UInt8))) => ⟨(3, (.osl 3 9 1 (y.map cStr))) :: a0.env, a0.bx⟩) h (OK_iSigns) (by kernel_rfl) (by kernel_rfl) (by kernel_rfl) (by kernel_rfl) (fun y => by kernel_rfl) (fun y => by kernel_rfl) ?_)))
 clear h; intro y1 h
 let a1 : St := a0.p [(4, (vS p0)), (3, (.osl 3 9 1 (y1.map cStr)))]
 refine st 1 a1 (cs h (OK_gSlices_Contains_Sstring_string y1 p0) fun y2 h => ?_)
 let a2 : St := a1.p [(2, (vB y2)), (5, (vB y2))]
 refine st 1 a2 (nx (ri ?_))
 injection h with h; subst h
 exact r1 (v := (vB y2))
theorem OK_iTokenOk (p0 : GToken) : FOk Tryz.prog 51 [(vGToken p0)] (fun y => (vB y)) (iTokenOk p0) := by
 intro r h
 rw [iTokenOk] at h
 refine aof triTokenOk ?_
 show avc Tryz.prog aciTokenOk (qiTokenOk _) ⟨[(0, (vGToken p0))], []⟩
 delta aciTokenOk
 refine so ?_
 let a0 : St := ⟨[(2, (vB false)), (1, (.ptr 1 0)), (0, (vGToken p0))], [(1, bGToken p0)]⟩
 refine st 2 a0 (nx (si (so ?_)))
 let a1 : St := a0.p [(6, (vI p0.kind)), (5, (.ptr 1 0))]
 refine st 2 a1 (nx (bi (so ?_)))
 let a2 : St := a1.p [(7, (vB (decide (p0.kind = 1)))), (8, (vB (decide (p0.kind = 1))))]
 refine st 2 a2 (nx ?_)
 refine cd h (fun h => ?_) fun h => ?_
 refine si (dops_in ?_)
 let a3 : St := a2.p [(10, (vS p0.text)), (9, (.ptr 1 1))]
 refine dsts_ok 2 (s' := a3) (by kernel_rfl) (dcall_step (m := iKeyOf p0.text) (args := [(vS p0.text)]) (v' := (fun y => (vI y))) h (OK_iKeyOf p0.text) (by kernel_rfl) (by kernel_rfl) (fun _ => rfl) ?_)
 clear h; intro y1 h
 let a4 : St := a3.p [(13, (vB (!decide (y1 = 0)))), (12, (vB (!decide (y1 = 0)))), (11, (vI y1))]
 refine dsts_ok 2 (s' := a4) (by kernel_rfl) (dgp_step (p := true) (b := (!decide (y1 = 0))) (v' := (.ptr 1 1)) (by kernel_rfl) rfl rfl (fun hc => vl) (dgp_step (p := true) (b := (!decide (y1 = 0))) (v' := (vS p0.text)) (by kernel_rfl) rfl rfl (fun hc => vg hc) ?_))
 refine dgcall_step (p := true) (b := (!decide (y1 = 0))) (m := iFold p0.text) (dflt := default) (args := [(vS p0.text)]) (v' := (fun y => (vS y))) h (by kernel_rfl) (OK_iFold p0.text) (fun hc => by kernel_rfl) (by kernel_rfl) (fun _ => rfl) (fun hc => (Eq.trans (b := ([(true && ((!decide (y1 = 0)) == true))] : List Bool).all id) (by kernel_rfl) (all_c hc rfl))) ?_
 clear h; intro y2 h
 refine dgp_step (p := true) (b := (!decide (y1 = 0))) (v' := (.ptr 1 1)) (by kernel_rfl) rfl rfl (fun hc => vl) (dgp_step (p := true) (b := (!decide (y1 = 0))) (v' := (vS p0.text)) (by kernel_rfl) rfl rfl (fun hc => vg hc) ?_)
 refine dgp_step (p := true) (b := (!decide (y1 = 0))) (v' := (vB (decide (y2 = p0.text)))) (by kernel_rfl) rfl rfl (fun hc => vop_val1 (Eq.trans (b := ([(true && ((!decide (y1 = 0)) == true)), (true && ((!decide (y1 = 0)) == true))] : List Bool).all id) (by kernel_rfl) (all_c hc (all_c hc rfl))) (by kernel_rfl)) ?_
 refine dv_step (m := some (if (!decide (y1 = 0)) = true then (decide (y2 = p0.text)) else false)) (v' := fun y => (vB y)) h rfl rfl (fun y hy => vop_pickV hy (p := (true && ((!decide (y1 = 0)) == true))) (q := true) (by kernel_rfl) (by kernel_rfl) (by kernel_rfl) (by kernel_rfl) (fun hb => gc_t rfl hb) (fun _ => rfl)) ?_
 clear h; intro y3 h
 let a5 : St := a4.p [(2, (vB y3)), (20, (vB y3)), (19, (.ite (true && ((!decide (y1 = 0)) == true)) (vB (decide (y2 = p0.text))))), (18, (.ite (true && ((!decide (y1 = 0)) == true)) (vS p0.text))), (17, (.ite (true && ((!decide (y1 = 0)) == true)) (.ptr 1 1))), (16, (.ite (true && ((!decide (y1 = 0)) == true)) (vS y2))), (15, (.ite (true && ((!decide (y1 = 0)) == true)) (vS p0.text))), (14, (.ite (true && ((!decide (y1 = 0)) == true)) (.ptr 1 1)))]
 refine dsts_ok 1 (s' := a5) (by kernel_rfl) (dnil_in (by kernel_rfl) (by kernel_rfl) (xi (ri (br (tr ?_)))))
 injection h with h; subst h
 exact r1 (v := (vB y3))
 refine so ?_
 let a6 : St := a2.p [(21, (vB (decide (p0.kind = 2)))), (22, (vB (decide (p0.kind = 2))))]
 refine st 2 a6 (nx ?_)
 refine cd h (fun h => ?_) fun h => ?_
 refine so ?_
 let a7 : St := a6.p [(24, (vS p0.text)), (23, (.ptr 1 1))]
 refine st 2 a7 (cs h (OK_iNameOk p0.text) fun y4 h => ?_)
 let a8 : St := a7.p [(2, (vB y4)), (25, (vB y4))]
 refine st 1 a8 (nx (ri (br (tr ?_))))
 injection h with h; subst h
 exact r1 (v := (vB y4))
 refine so ?_
 let a9 : St := a6.p [(26, (vB (decide (p0.kind = 3)))), (27, (vB (decide (p0.kind = 3))))]
 refine st 2 a9 (nx ?_)
 refine cd h (fun h => ?_) fun h => ?_
 refine so ?_
 let a10 : St := a9.p [(30, (vS p0.text)), (29, (.ptr 1 1))]
 refine st 2 a10 (cs h (OK_iNumber p0.text) fun y5 h => ?_)
 let a11 : St := a10.p [(4, (vB y5.2)), (3, (vI y5.1)), (33, (vB y5.2)), (32, (vI y5.1)), (28, (.tup [(vI y5.1), (vB y5.2)])), (31, (.tup [(vI y5.1), (vB y5.2)]))]
 refine st 5 a11 (nx (so ?_))
 let a12 : St := a11.p [(2, (vB y5.2)), (34, (vB y5.2))]
 refine st 2 a12 (nx (ri (br (tr ?_))))
 injection h with h; subst h
 exact r1 (v := (vB y5.2))
 refine so ?_
 let a13 : St := a9.p [(35, (vB (decide (p0.kind = 4)))), (36, (vB (decide (p0.kind = 4))))]
 refine st 2 a13 (nx ?_)
 refine cd h (fun h => ?_) fun h => ?_
 refine so ?_
 let a14 : St := a13.p [(2, (vB (decide ((ln p0.text) ≤ 40)))), (40, (vB (decide ((ln p0.text) ≤ 40)))), (39, (vI (ln p0.text))), (38, (vS p0.text)), (37, (.ptr 1 1))]
 refine st 5 a14 (nx (ri (br (tr ?_))))
 injection h with h; subst h
 exact r1 (v := (vB (decide ((ln p0.text) ≤ 40))))
 refine so ?_
 let a15 : St := a13.p [(41, (vB (decide (p0.kind = 5)))), (42, (vB (decide (p0.kind = 5))))]
 refine st 2 a15 (nx ?_)
 refine cd h (fun h => ?_) fun h => ?_
 refine so ?_
 let a16 : St := a15.p [(44, (vS p0.text)), (43, (.ptr 1 1))]
 refine st 2 a16 (cs h (OK_iSignOk p0.text) fun y6 h => ?_)
 let a17 : St := a16.p [(2, (vB y6)), (45, (vB y6))]
 refine st 1 a17 (nx (ri (br (tr ?_))))
 injection h with h; subst h
 exact r1 (v := (vB y6))
 refine ki (bn (xi (so ?_)))
 let a18 : St := a15.p [(2, (vB false))]
 refine st 1 a18 (nx (ri ?_))
 injection h with h; subst h
 exact r1 (v := (vB false))
theorem OK_iTokenText (p0 : GToken) : FOk Tryz.prog 53 [(vGToken p0)] (fun y => (vS y)) (iTokenText p0) := by
 intro r h
 rw [iTokenText] at h
 refine aof triTokenText ?_
 show avc Tryz.prog aciTokenText (qiTokenText _) ⟨[(0, (vGToken p0))], []⟩
 delta aciTokenText
 refine so ?_
 let a0 : St := ⟨[(2, (vS [])), (1, (.ptr 1 0)), (0, (vGToken p0))], [(1, bGToken p0)]⟩
 refine st 2 a0 (nx (si (so ?_)))
 let a1 : St := a0.p [(3, (vGToken p0))]
 refine st 1 a1 (cs h (OK_iTokenOk p0) fun y1 h => ?_)
 let a2 : St := a1.p [(5, (vB (!y1))), (4, (vB y1))]
 refine st 1 a2 (nx ?_)
 refine cd h (fun h => ?_) fun h => ?_
 refine so ?_
 let a3 : St := a2.p [(2, (vS []))]
 refine st 1 a3 (nx (ri (tr ?_)))
 injection h with h; subst h
 exact r1 (v := (vS []))
 refine ki (xi (si (so ?_)))
 let a4 : St := a2.p [(7, (vI p0.kind)), (6, (.ptr 1 0))]
 refine st 2 a4 (nx (bi (so ?_)))
 let a5 : St := a4.p [(8, (vB (decide (p0.kind = 2)))), (9, (vB (decide (p0.kind = 2))))]
 refine st 2 a5 (nx ?_)
 refine cd h (fun h => ?_) fun h => ?_
 refine so ?_
 let a6 : St := a5.p [(11, (vS p0.text)), (10, (.ptr 1 1))]
 refine st 2 a6 (cs h (OK_iNameText p0.text) fun y2 h => ?_)
 let a7 : St := a6.p [(2, (vS y2)), (12, (vS y2))]
 refine st 1 a7 (nx (ri (br (tr ?_))))
 injection h with h; subst h
 exact r1 (v := (vS y2))
 refine so ?_
 let a8 : St := a5.p [(13, (vB (decide (p0.kind = 4)))), (14, (vB (decide (p0.kind = 4))))]
 refine st 2 a8 (nx ?_)
 refine cd h (fun h => ?_) fun h => ?_
 refine so ?_
 let a9 : St := a8.p [(16, (vS p0.text)), (15, (.ptr 1 1))]
 refine st 2 a9 (cs h (OK_iQuoteText p0.text) fun y3 h => ?_)
 let a10 : St := a9.p [(2, (vS y3)), (17, (vS y3))]
 refine st 1 a10 (nx (ri (br (tr ?_))))
 injection h with h; subst h
 exact r1 (v := (vS y3))
 refine ki (bn (xi (so ?_)))
 let a11 : St := a8.p [(2, (vS p0.text)), (19, (vS p0.text)), (18, (.ptr 1 1))]
 refine st 3 a11 (nx (ri ?_))
 injection h with h; subst h
 exact r1 (v := (vS p0.text))
theorem OK_iIsQuotedName (p0 : GToken) : FOk Tryz.prog 57 [(vGToken p0)] (fun y => (vB y)) (iIsQuotedName p0) := by
 intro r h
 rw [iIsQuotedName] at h
 refine aof triIsQuotedName ?_
 show avc Tryz.prog aciIsQuotedName (qiIsQuotedName _) ⟨[(0, (vGToken p0))], []⟩
 delta aciIsQuotedName
 refine so ?_
 let a0 : St := ⟨[(2, (vB false)), (1, (.ptr 1 0)), (0, (vGToken p0))], [(1, bGToken p0)]⟩
 refine st 2 a0 (nx (so ?_))
 let a1 : St := a0.p [(6, (vB (decide (p0.kind = 2)))), (5, (vB (decide (p0.kind = 2)))), (4, (vI p0.kind)), (3, (.ptr 1 0))]
 refine st 4 a1 (gp true (decide (p0.kind = 2)) (.ptr 1 1) (fun hc => vl) (gp true (decide (p0.kind = 2)) (vS p0.text) (fun hc => vg hc) ?_))
 refine gcall_step (p := true) (b := (decide (p0.kind = 2))) (m := iPlainName p0.text) (dflt := default) (args := [(vS p0.text)]) (v' := (fun y => (vB y))) h (by kernel_rfl) (OK_iPlainName p0.text) (fun hc => by kernel_rfl) (by kernel_rfl) (fun _ => rfl) (fun hc => (Eq.trans (b := ([(true && ((decide (p0.kind = 2)) == true))] : List Bool).all id) (by kernel_rfl) (all_c hc rfl))) ?_
 clear h; intro y1 h
 refine gp true (decide (p0.kind = 2)) (vB (!y1)) (fun hc => vg hc) (vs (fun (y : Bool) => (vB y)) h (fun y hy => vop_pickV hy (p := (true && ((decide (p0.kind = 2)) == true))) (q := true) (by kernel_rfl) (by kernel_rfl) (by kernel_rfl) (by kernel_rfl) (fun hb => gc_t rfl hb) (fun _ => rfl)) fun y2 h => ?_)
 let a2 : St := a1.p [(2, (vB y2)), (11, (vB y2)), (10, (.ite (true && ((decide (p0.kind = 2)) == true)) (vB (!y1)))), (9, (.ite (true && ((decide (p0.kind = 2)) == true)) (vB y1))), (8, (.ite (true && ((decide (p0.kind = 2)) == true)) (vS p0.text))), (7, (.ite (true && ((decide (p0.kind = 2)) == true)) (.ptr 1 1)))]
 refine st 1 a2 (nx (ri ?_))
 injection h with h; subst h
 exact r1 (v := (vB y2))
theorem OK_iIsWord (p0 : GToken) : FOk Tryz.prog 56 [(vGToken p0)] (fun y => (vB y)) (iIsWord p0) := by
 intro r h
 rw [iIsWord] at h
 refine aof triIsWord ?_
 show avc Tryz.prog aciIsWord (qiIsWord _) ⟨[(0, (vGToken p0))], []⟩
 delta aciIsWord
 refine so ?_
 let a0 : St := ⟨[(2, (vB false)), (1, (.ptr 1 0)), (0, (vGToken p0))], [(1, bGToken p0)]⟩
 refine st 2 a0 (nx (so ?_))
 let a1 : St := a0.p [(6, (vB (decide (p0.kind = 1)))), (5, (vB (decide (p0.kind = 1)))), (4, (vI p0.kind)), (3, (.ptr 1 0))]
 refine st 4 a1 (gp true (decide (p0.kind = 1)) (.ptr 1 0) (fun hc => vl) (gp true (decide (p0.kind = 1)) (vI p0.kind) (fun hc => vg hc) (gp true (decide (p0.kind = 1)) (vB (decide (p0.kind = 3))) (fun hc => vg hc) ?_)))
 refine vs (fun (y : Bool) => (vB y)) h (fun y hy => vop_pickV hy (p := true) (q := (true && ((decide (p0.kind = 1)) == false))) (by kernel_rfl) (by kernel_rfl) (by kernel_rfl) (by kernel_rfl) (fun _ => rfl) (fun hb => gc_f rfl hb)) fun y1 h => ?_
 let a2 : St := a1.p [(11, (vB y1)), (10, (vB y1)), (9, (.ite (true && ((decide (p0.kind = 1)) == false)) (vB (decide (p0.kind = 3))))), (8, (.ite (true && ((decide (p0.kind = 1)) == false)) (vI p0.kind))), (7, (.ite (true && ((decide (p0.kind = 1)) == false)) (.ptr 1 0)))]
 refine st 1 a2 (gp true y1 (.ptr 1 0) (fun hc => vl) (gp true y1 (vI p0.kind) (fun hc => vg hc) (gp true y1 (vB (decide (p0.kind = 2))) (fun hc => vg hc) (gp true y1 (vB (decide (p0.kind = 2))) (fun hc => vg hc) (gp (true && (y1 == false)) (decide (p0.kind = 2)) (.ptr 1 1) (fun hc => vl) (gp (true && (y1 == false)) (decide (p0.kind = 2)) (vS p0.text) (fun hc => vg hc) ?_))))))
 refine gcall_step (p := (true && (y1 == false))) (b := (decide (p0.kind = 2))) (m := iPlainName p0.text) (dflt := default) (args := [(vS p0.text)]) (v' := (fun y => (vB y))) h (by kernel_rfl) (OK_iPlainName p0.text) (fun hc => by kernel_rfl) (by kernel_rfl) (fun _ => rfl) (fun hc => (Eq.trans (b := ([((true && (y1 == false)) && ((decide (p0.kind = 2)) == true))] : List Bool).all id) (by kernel_rfl) (all_c hc rfl))) ?_
 clear h; intro y2 h
 refine gv true y1 (fun (y : Bool) => (vB y)) h (fun y hy hc => vop_pickV hy (p := ((true && (y1 == false)) && ((decide (p0.kind = 2)) == true))) (q := true) (Eq.trans (b := ([(true && (y1 == false))] : List Bool).all id) (by kernel_rfl) (all_c hc rfl)) (by kernel_rfl) (by kernel_rfl) (by kernel_rfl) (fun hb => gc_t hc hb) (fun _ => rfl)) fun y3 h => ?_
 refine vs (fun (y : Bool) => (vB y)) h (fun y hy => vop_pickV hy (p := true) (q := (true && (y1 == false))) (by kernel_rfl) (by kernel_rfl) (by kernel_rfl) (by kernel_rfl) (fun _ => rfl) (fun hb => gc_f rfl hb)) fun y4 h => ?_
 let a3 : St := a2.p [(2, (vB y4)), (20, (vB y4)), (19, (.ite (gF y1) (vB y3))), (18, (.ite ((gF y1) && ((decide (p0.kind = 2)) == true)) (vB y2))), (17, (.ite ((gF y1) && ((decide (p0.kind = 2)) == true)) (vS p0.text))), (16, (.ite ((gF y1) && ((decide (p0.kind = 2)) == true)) (.ptr 1 1))), (15, (.ite (gF y1) (vB (decide (p0.kind = 2))))), (14, (.ite (gF y1) (vB (decide (p0.kind = 2))))), (13, (.ite (gF y1) (vI p0.kind))), (12, (.ite (gF y1) (.ptr 1 0)))]
 refine st 1 a3 (nx (ri ?_))
 injection h with h; subst h
 exact r1 (v := (vB y4))
theorem OK_iNeedsGap (p0 : GToken) (p1 : GToken) : FOk Tryz.prog 34 [(vGToken p0), (vGToken p1)] (fun y => (vB y)) (iNeedsGap p0 p1) := by
 intro r h
 rw [iNeedsGap] at h
 refine aof triNeedsGap ?_
 show avc Tryz.prog aciNeedsGap (qiNeedsGap _) ⟨[(0, (vGToken p0)), (1, (vGToken p1))], []⟩
 delta aciNeedsGap
 refine so ?_
 let a0 : St := ⟨[(4, (vB false)), (3, (.ptr 3 0)), (2, (.ptr 2 0)), (0, (vGToken p0)), (1, (vGToken p1))], [(3, bGToken p1), (2, bGToken p0)]⟩
 refine st 3 a0 (nx (si (so ?_)))
 let a1 : St := a0.p [(5, (vGToken p0))]
 refine st 1 a1 (cs h (OK_iTokenOk p0) fun y1 h => ?_)
 let a2 : St := a1.p [(8, (vB (!y1))), (7, (vB (!y1))), (6, (vB y1))]
 refine st 2 a2 (gp true (!y1) (vGToken p1) (fun hc => vl) (gcall_step (p := true) (b := (!y1)) (m := iTokenOk p1) (dflt := default) (args := [(vGToken p1)]) (v' := (fun y => (vB y))) h (by kernel_rfl) (OK_iTokenOk p1) (fun hc => by kernel_rfl) (by kernel_rfl) (fun _ => rfl) (fun hc => (Eq.trans (b := ([(true && ((!y1) == false))] : List Bool).all id) (by kernel_rfl) (all_c hc rfl))) ?_))
 clear h; intro y2 h
 refine gp true (!y1) (vB (!y2)) (fun hc => vg hc) (vs (fun (y : Bool) => (vB y)) h (fun y hy => vop_pickV hy (p := true) (q := (true && ((!y1) == false))) (by kernel_rfl) (by kernel_rfl) (by kernel_rfl) (by kernel_rfl) (fun _ => rfl) (fun hb => gc_f rfl hb)) fun y3 h => (nx ?_))
 refine cd h (fun h => ?_) fun h => ?_
 refine so ?_
 let a3 : St := a2.p [(4, (vB false)), (12, (vB y3)), (11, (.ite (true && ((!y1) == false)) (vB (!y2)))), (10, (.ite (true && ((!y1) == false)) (vB y2))), (9, (.ite (true && ((!y1) == false)) (vGToken p1)))]
 refine st 1 a3 (nx (ri (tr ?_)))
 injection h with h; subst h
 exact r1 (v := (vB false))
 refine ki (xi (si (so ?_)))
 let a4 : St := a2.p [(13, (vGToken p0)), (12, (vB y3)), (11, (.ite (true && ((!y1) == false)) (vB (!y2)))), (10, (.ite (true && ((!y1) == false)) (vB y2))), (9, (.ite (true && ((!y1) == false)) (vGToken p1)))]
 refine st 1 a4 (cs h (OK_iIsWord p0) fun y4 h => ?_)
 let a5 : St := a4.p [(15, (vB y4)), (14, (vB y4))]
 refine st 1 a5 (gp true y4 (vGToken p1) (fun hc => vl) (gcall_step (p := true) (b := y4) (m := iIsWord p1) (dflt := default) (args := [(vGToken p1)]) (v' := (fun y => (vB y))) h (by kernel_rfl) (OK_iIsWord p1) (fun hc => by kernel_rfl) (by kernel_rfl) (fun _ => rfl) (fun hc => (Eq.trans (b := ([(true && (y4 == true))] : List Bool).all id) (by kernel_rfl) (all_c hc rfl))) ?_))
 clear h; intro y5 h
 refine vs (fun (y : Bool) => (vB y)) h (fun y hy => vop_pickV hy (p := (true && (y4 == true))) (q := true) (by kernel_rfl) (by kernel_rfl) (by kernel_rfl) (by kernel_rfl) (fun hb => gc_t rfl hb) (fun _ => rfl)) fun y6 h => ?_
 let a6 : St := a5.p [(19, (vB y6)), (18, (vB y6)), (17, (.ite (gT y4) (vB y5))), (16, (.ite (gT y4) (vGToken p1)))]
 refine st 1 a6 (gp true y6 (vGToken p0) (fun hc => vl) (gcall_step (p := true) (b := y6) (m := iIsQuotedName p0) (dflt := default) (args := [(vGToken p0)]) (v' := (fun y => (vB y))) h (by kernel_rfl) (OK_iIsQuotedName p0) (fun hc => by kernel_rfl) (by kernel_rfl) (fun _ => rfl) (fun hc => (Eq.trans (b := ([(true && (y6 == false))] : List Bool).all id) (by kernel_rfl) (all_c hc rfl))) ?_))
 clear h; intro y7 h
 refine gp true y6 (vB y7) (fun hc => vg hc) (gp (true && (y6 == false)) y7 (vGToken p1) (fun hc => vl) ?_)
 refine gcall_step (p := (true && (y6 == false))) (b := y7) (m := iIsQuotedName p1) (dflt := default) (args := [(vGToken p1)]) (v' := (fun y => (vB y))) h (by kernel_rfl) (OK_iIsQuotedName p1) (fun hc => by kernel_rfl) (by kernel_rfl) (fun _ => rfl) (fun hc => (Eq.trans (b := ([((true && (y6 == false)) && (y7 == true))] : List Bool).all id) (by kernel_rfl) (all_c hc rfl))) ?_
 clear h; intro y8 h
 refine gv true y6 (fun (y : Bool) => (vB y)) h (fun y hy hc => vop_pickV hy (p := ((true && (y6 == false)) && (y7 == true))) (q := true) (Eq.trans (b := ([(true && (y6 == false))] : List Bool).all id) (by kernel_rfl) (all_c hc rfl)) (by kernel_rfl) (by kernel_rfl) (by kernel_rfl) (fun hb => gc_t hc hb) (fun _ => rfl)) fun y9 h => ?_
 refine vs (fun (y : Bool) => (vB y)) h (fun y hy => vop_pickV hy (p := true) (q := (true && (y6 == false))) (by kernel_rfl) (by kernel_rfl) (by kernel_rfl) (by kernel_rfl) (fun _ => rfl) (fun hb => gc_f rfl hb)) fun y10 h => ?_
 let a7 : St := a6.p [(27, (vB y10)), (26, (vB y10)), (25, (.ite (gF y6) (vB y9))), (24, (.ite ((gF y6) && (y7 == true)) (vB y8))), (23, (.ite ((gF y6) && (y7 == true)) (vGToken p1))), (22, (.ite (gF y6) (vB y7))), (21, (.ite (gF y6) (vB y7))), (20, (.ite (gF y6) (vGToken p0)))]
 refine st 1 a7 (gp true y10 (.ptr 2 0) (fun hc => vl) (gp true y10 (vI p0.kind) (fun hc => vg hc) (gp true y10 (vB (decide (p0.kind = 4))) (fun hc => vg hc) (gp true y10 (vB (decide (p0.kind = 4))) (fun hc => vg hc) (gp (true && (y10 == false)) (decide (p0.kind = 4)) (.ptr 3 0) (fun hc => vl) (gp (true && (y10 == false)) (decide (p0.kind = 4)) (vI p1.kind) (fun hc => vg hc) ?_))))))
 refine gp (true && (y10 == false)) (decide (p0.kind = 4)) (vB (decide (p1.kind = 4))) (fun hc => vg hc) ?_
 refine gv true y10 (fun (y : Bool) => (vB y)) h (fun y hy hc => vop_pickV hy (p := ((true && (y10 == false)) && ((decide (p0.kind = 4)) == true))) (q := true) (Eq.trans (b := ([(true && (y10 == false))] : List Bool).all id) (by kernel_rfl) (all_c hc rfl)) (by kernel_rfl) (by kernel_rfl) (by kernel_rfl) (fun hb => gc_t hc hb) (fun _ => rfl)) fun y11 h => ?_
 refine vs (fun (y : Bool) => (vB y)) h (fun y hy => vop_pickV hy (p := true) (q := (true && (y10 == false))) (by kernel_rfl) (by kernel_rfl) (by kernel_rfl) (by kernel_rfl) (fun _ => rfl) (fun hb => gc_f rfl hb)) fun y12 h => (nx ?_)
 refine cd h (fun h => ?_) fun h => ?_
 refine so ?_
 let a8 : St := a7.p [(4, (vB true)), (36, (vB y12)), (35, (.ite (gF y10) (vB y11))), (34, (.ite ((gF y10) && ((decide (p0.kind = 4)) == true)) (vB (decide (p1.kind = 4))))), (33, (.ite ((gF y10) && ((decide (p0.kind = 4)) == true)) (vI p1.kind))), (32, (.ite ((gF y10) && ((decide (p0.kind = 4)) == true)) (.ptr 3 0))), (31, (.ite (gF y10) (vB (decide (p0.kind = 4))))), (30, (.ite (gF y10) (vB (decide (p0.kind = 4))))), (29, (.ite (gF y10) (vI p0.kind))), (28, (.ite (gF y10) (.ptr 2 0)))]
 refine st 1 a8 (nx (ri (tr ?_)))
 injection h with h; subst h
 exact r1 (v := (vB true))
 refine ki (xi (si (so ?_)))
 let a9 : St := a7.p [(40, (vB (!decide (p0.kind = 5)))), (39, (vB (!decide (p0.kind = 5)))), (38, (vI p0.kind)), (37, (.ptr 2 0)), (36, (vB y12)), (35, (.ite (gF y10) (vB y11))), (34, (.ite ((gF y10) && ((decide (p0.kind = 4)) == true)) (vB (decide (p1.kind = 4))))), (33, (.ite ((gF y10) && ((decide (p0.kind = 4)) == true)) (vI p1.kind))), (32, (.ite ((gF y10) && ((decide (p0.kind = 4)) == true)) (.ptr 3 0))), (31, (.ite (gF y10) (vB (decide (p0.kind = 4))))), (30, (.ite (gF y10) (vB (decide (p0.kind = 4))))), (29, (.ite (gF y10) (vI p0.kind))), (28, (.ite (gF y10) (.ptr 2 0)))]
 refine st 4 a9 (gp true (!decide (p0.kind = 5)) (.ptr 3 0) (fun hc => vl) (gp true (!decide (p0.kind = 5)) (vI p1.kind) (fun hc => vg hc) (gp true (!decide (p0.kind = 5)) (vB (!decide (p1.kind = 5))) (fun hc => vg hc) ?_)))
 refine vs (fun (y : Bool) => (vB y)) h (fun y hy => vop_pickV hy (p := true) (q := (true && ((!decide (p0.kind = 5)) == false))) (by kernel_rfl) (by kernel_rfl) (by kernel_rfl) (by kernel_rfl) (fun _ => rfl) (fun hb => gc_f rfl hb)) fun y13 h => (nx ?_)
 refine cd h (fun h => ?_) fun h => ?_
 refine so ?_
 let a10 : St := a9.p [(4, (vB false)), (44, (vB y13)), (43, (.ite (true && ((!decide (p0.kind = 5)) == false)) (vB (!decide (p1.kind = 5))))), (42, (.ite (true && ((!decide (p0.kind = 5)) == false)) (vI p1.kind))), (41, (.ite (true && ((!decide (p0.kind = 5)) == false)) (.ptr 3 0)))]
 refine st 1 a10 (nx (ri (tr ?_)))
 injection h with h; subst h
 exact r1 (v := (vB false))
 refine ki (xi (si (so ?_)))
 let a11 : St := a9.p [(46, (vS p0.text)), (45, (.ptr 2 1)), (44, (vB y13)), (43, (.ite (true && ((!decide (p0.kind = 5)) == false)) (vB (!decide (p1.kind = 5))))), (42, (.ite (true && ((!decide (p0.kind = 5)) == false)) (vI p1.kind))), (41, (.ite (true && ((!decide (p0.kind = 5)) == false)) (.ptr 3 0)))]
 refine st 2 a11 (nx (bi (so ?_)))
 let a12 : St := a11.p [(47, (vB (decide (p0.text = [45])))), (48, (vB (decide (p0.text = [45]))))]
 refine st 2 a12 (nx ?_)
 refine cd h (fun h => ?_) fun h => ?_
 refine so ?_
 let a13 : St := a12.p [(4, (vB (decide (p1.text = [45])))), (51, (vB (decide (p1.text = [45])))), (50, (vS p1.text)), (49, (.ptr 3 1))]
 refine st 4 a13 (nx (ri (br (tr ?_))))
 injection h with h; subst h
 exact r1 (v := (vB (decide (p1.text = [45]))))
 refine so ?_
 let a14 : St := a12.p [(52, (vB (decide (p0.text = [47])))), (53, (vB (decide (p0.text = [47]))))]
 refine st 2 a14 (nx ?_)
 refine cd h (fun h => ?_) fun h => ?_
 refine so ?_
 let a15 : St := a14.p [(4, (vB (decide (p1.text = [42])))), (56, (vB (decide (p1.text = [42])))), (55, (vS p1.text)), (54, (.ptr 3 1))]
 refine st 4 a15 (nx (ri (br (tr ?_))))
 injection h with h; subst h
 exact r1 (v := (vB (decide (p1.text = [42]))))
 refine so ?_
 let a16 : St := a14.p [(57, (vB (decide (p0.text = [60])))), (58, (vB (decide (p0.text = [60]))))]
 refine st 2 a16 (nx ?_)
 refine cd h (fun h => ?_) fun h => ?_
 refine so ?_
 let a17 : St := a16.p [(60, (vS p1.text)), (59, (.ptr 3 1))]
 refine st 2 a17 (vs (fun (y : Int) => (.d (.i .u8 y))) h (fun y hy => vop_ix (b := p1.text) (k := .i64) hy (by kernel_rfl) (by kernel_rfl) (by kernel_rfl)) fun y14 h => ?_)
 let a18 : St := a17.p [(63, (vB (decide (y14 = 61)))), (62, (vB (decide (y14 = 61)))), (61, (.d (.i .u8 y14)))]
 refine st 2 a18 (gp true (decide (y14 = 61)) (.ptr 3 1) (fun hc => vl) (gp true (decide (y14 = 61)) (vS p1.text) (fun hc => vg hc) (gv true (decide (y14 = 61)) (fun (y : Int) => (.d (.i .u8 y))) h (fun y hy hc => vop_ix (b := p1.text) (k := .i64) hy (Eq.trans (b := ([(true && ((decide (y14 = 61)) == false))] : List Bool).all id) (by kernel_rfl) (all_c hc rfl)) (by kernel_rfl) (by kernel_rfl)) fun y15 h => ?_)))
 refine gp true (decide (y14 = 61)) (vB (decide (y15 = 62))) (fun hc => vg hc) (vs (fun (y : Bool) => (vB y)) h (fun y hy => vop_pickV hy (p := true) (q := (true && ((decide (y14 = 61)) == false))) (by kernel_rfl) (by kernel_rfl) (by kernel_rfl) (by kernel_rfl) (fun _ => rfl) (fun hb => gc_f rfl hb)) fun y16 h => ?_)
 let a19 : St := a18.p [(4, (vB y16)), (68, (vB y16)), (67, (.ite (true && ((decide (y14 = 61)) == false)) (vB (decide (y15 = 62))))), (66, (.ite (true && ((decide (y14 = 61)) == false)) (.d (.i .u8 y15)))), (65, (.ite (true && ((decide (y14 = 61)) == false)) (vS p1.text))), (64, (.ite (true && ((decide (y14 = 61)) == false)) (.ptr 3 1)))]
 refine st 1 a19 (nx (ri (br (tr ?_))))
 injection h with h; subst h
 exact r1 (v := (vB y16))
 refine so ?_
 let a20 : St := a16.p [(69, (vB (decide (p0.text = [62])))), (70, (vB (decide (p0.text = [62]))))]
 refine st 2 a20 (nx ?_)
 refine cd h (fun h => ?_) fun h => ?_
 refine so ?_
 let a21 : St := a20.p [(72, (vS p1.text)), (71, (.ptr 3 1))]
 refine st 2 a21 (vs (fun (y : Int) => (.d (.i .u8 y))) h (fun y hy => vop_ix (b := p1.text) (k := .i64) hy (by kernel_rfl) (by kernel_rfl) (by kernel_rfl)) fun y17 h => ?_)
 let a22 : St := a21.p [(4, (vB (decide (y17 = 61)))), (74, (vB (decide (y17 = 61)))), (73, (.d (.i .u8 y17)))]
 refine st 2 a22 (nx (ri (br (tr ?_))))
 injection h with h; subst h
 exact r1 (v := (vB (decide (y17 = 61))))
 refine ki (bn (xi (so ?_)))
 let a23 : St := a20.p [(4, (vB false))]
 refine st 1 a23 (nx (ri ?_))
 injection h with h; subst h
 exact r1 (v := (vB false))
theorem OKs_iJoined_iNeedsGap_J1 (p0 : (List GToken)) : (∀ (x11 : Int) (y1 : GToken) (b5_1_7 : (List Int)) (r : (List UInt8)), iJoined_iNeedsGap_J1 p0 x11 y1 b5_1_7 = some r → avc Tryz.prog aciJoined_iNeedsGap_J1 (qiJoined_iNeedsGap_4 r) (stiJoined_iNeedsGap_J1 p0 x11 y1 b5_1_7)) ∧ (∀ (x11 : Int) (b5_1 : (List Int)) (r : (List UInt8)), iJoined_iNeedsGap_L0 p0 x11 b5_1 = some r → avc Tryz.prog aciJoined_iNeedsGap_L0 (qiJoined_iNeedsGap_1 r) (stiJoined_iNeedsGap_L0 p0 x11 b5_1)) := by
 refine iJoined_iNeedsGap_J1.mutual_partial_correctness p0 (fun x11 y1 b5_1_7 r => avc Tryz.prog aciJoined_iNeedsGap_J1 (qiJoined_iNeedsGap_4 r) (stiJoined_iNeedsGap_J1 p0 x11 y1 b5_1_7)) (fun x11 b5_1 r => avc Tryz.prog aciJoined_iNeedsGap_L0 (qiJoined_iNeedsGap_1 r) (stiJoined_iNeedsGap_L0 p0 x11 b5_1)) ?_ ?_
 · intro F_iJoined_iNeedsGap_L0 OK_iJoined_iNeedsGap_L0 x11 y1 b5_1_7 r h
   delta aciJoined_iNeedsGap_J1
   refine oi ?_
   let a14 : St := (stiJoined_iNeedsGap_J1 p0 x11 y1 b5_1_7).p [(32, (vGToken y1))]
   refine st 1 a14 (cs h (OK_iTokenText y1) fun y10 h => ?_)
   refine callg_step ⟨[(1000000, 5)], [(6000001, 5062501)], [], [], [], [(6000001, 5062501)], [], [5062501], []⟩ (m := gStrings_Builder_WriteString_x b5_1_7 y10) (S' := fun (y : Int × (List Int)) => ⟨(34, (.tup [(vI y.1), .top])) :: (33, (vS y10)) :: a14.env, [(5, [(.bp 5 74), (.osl 5062501 5 1 (y.2.map cU8))]), (7, bGToken y1)]⟩) h (OK_gStrings_Builder_WriteString_x b5_1_7 y10) (by kernel_rfl) (by kernel_rfl) (by kernel_rfl) (by kernel_rfl) (fun y => by kernel_rfl) (fun y => by kernel_rfl) ?_
   clear h; intro y11 h
   refine ni (bn (xi (oi ?_)))
   let a15 : St := ⟨(11, (vI (IntKind.wrap .i64 (x11 + 1)))) :: (35, (vI (IntKind.wrap .i64 (x11 + 1)))) :: (34, (.tup [(vI y11.1), .top])) :: (33, (vS y10)) :: a14.env, [(5, [(.bp 5 74), (.osl 5062501 5 1 (y11.2.map cU8))]), (7, bGToken y1)]⟩
   refine st 2 a15 (ni ?_)
   exact loop_back (s' := stiJoined_iNeedsGap_L0 p0 (IntKind.wrap .i64 (x11 + 1)) y11.2) (wr [(5062501, .old 5062501)] (es (es (es (es (es (es er_nil)))))) (br_cons (c0 := [(.bp 5 74), (.osl 5062501 5 1 (y11.2.map cU8))]) (by kernel_rfl) (vrs_cons (vr_same (by kernel_rfl) (by kernel_rfl)) (vrs_cons (vr_old (t := 5062501) (by kernel_rfl) (by kernel_rfl)) (vrs_nil))) br_nil)) (OK_iJoined_iNeedsGap_L0 (IntKind.wrap .i64 (x11 + 1)) y11.2 _ h)
 · intro F_iJoined_iNeedsGap_J1 OK_iJoined_iNeedsGap_J1 x11 b5_1 r h
   delta aciJoined_iNeedsGap_L0
   refine loop_unroll (so ?_)
   let a4 : St := (stiJoined_iNeedsGap_L0 p0 x11 b5_1).p [(12, (vB (decide (x11 < (ln p0)))))]
   refine st 1 a4 (nx (si ?_))
   refine cd h (fun h => ?_) fun h => ?_
   refine ki (xi (si (bi (so ?_))))
   let a5 : St := a4.p [(13, (vI x11))]
   refine st 1 a5 (vs (fun (y : GToken) => (.rp (cGToken y))) h (fun y hy => via (l := p0) (f := cGToken) (g := cGToken) (k := .i64) hy (fun _ => rfl)) fun y1 h => ?_)
   let a6 : St := ⟨(6, (vI x11)) :: (7, (.ptr 7 0)) :: (15, (vGToken y1)) :: (14, (.rp (cGToken y1))) :: a5.env, [(7, bGToken y1), (5, [(.bp 5 74), (.osl 5062501 5 1 (b5_1.map cU8))])]⟩
   refine st 4 a6 (nx (si (so ?_)))
   let a7 : St := a6.p [(16, (vGToken y1))]
   refine st 1 a7 (cs h (OK_iTokenOk y1) fun y2 h => ?_)
   let a8 : St := a7.p [(18, (vB (!y2))), (17, (vB y2))]
   refine st 1 a8 (nx ?_)
   refine cd h (fun h => ?_) fun h => ?_
   refine so ?_
   let a9 : St := a8.p [(4, (vS []))]
   refine st 1 a9 (nx (ri (tr (br (tr (tr (br (tr ?_))))))))
   injection h with h; subst h
   exact r1 (v := (vS []))
   refine ki (xi (si (si (dops_in ?_))))
   let a10 : St := a8.p [(21, (vB (decide (0 < x11)))), (20, (vB (decide (0 < x11)))), (19, (vI x11))]
   refine dsts_ok 3 (s' := a10) (by kernel_rfl) (dgp_step (p := true) (b := (decide (0 < x11))) (v' := (.fn 34 [])) (by kernel_rfl) rfl rfl (fun hc => vl) (dgp_step (p := true) (b := (decide (0 < x11))) (v' := (.d (.sl 3 (p0.map cGToken)))) (by kernel_rfl) rfl rfl (fun hc => vl) (dgp_step (p := true) (b := (decide (0 < x11))) (v' := (vI x11)) (by kernel_rfl) rfl rfl (fun hc => vl) ?_)))
   refine dgp_step (p := true) (b := (decide (0 < x11))) (v' := (vI (IntKind.wrap .i64 (x11 - 1)))) (by kernel_rfl) rfl rfl (fun hc => vg hc) ?_
   refine dgv_step (p := true) (b := (decide (0 < x11))) (m := idx p0 (IntKind.wrap .i64 (x11 - 1))) (dflt := default) (v' := fun y => (.rp (cGToken y))) h (by kernel_rfl) rfl rfl (fun y hy hc => vop_ia (l := p0) (f := cGToken) (g := cGToken) (k := .i64) hy (fun _ => rfl) (Eq.trans (b := ([(true && ((decide (0 < x11)) == true)), (true && ((decide (0 < x11)) == true))] : List Bool).all id) (by kernel_rfl) (all_c hc (all_c hc rfl))) (by kernel_rfl) (by kernel_rfl)) ?_
   clear h; intro y3 h
   refine dgp_step (p := true) (b := (decide (0 < x11))) (v' := (vGToken y3)) (by kernel_rfl) rfl rfl (fun hc => vg hc) (dgp_step (p := true) (b := (decide (0 < x11))) (v' := (vGToken y1)) (by kernel_rfl) rfl rfl (fun hc => vl) ?_)
   refine dgcallv_step (p := true) (b := (decide (0 < x11))) (m := iNeedsGap y3 y1) (dflt := default) (args := [(vGToken y3), (vGToken y1)]) (v' := (fun y => (vB y))) h (by kernel_rfl) (by kernel_rfl) (by kernel_rfl) (OK_iNeedsGap y3 y1) (fun hc => by kernel_rfl) (by kernel_rfl) (fun _ => rfl) (fun hc => (Eq.trans (b := ([(true && ((decide (0 < x11)) == true)), (true && ((decide (0 < x11)) == true)), (true && ((decide (0 < x11)) == true))] : List Bool).all id) (by kernel_rfl) (all_c hc (all_c hc (all_c hc rfl))))) ?_
   clear h; intro y4 h
   refine dv_step (m := some (if (decide (0 < x11)) = true then y4 else false)) (v' := fun y => (vB y)) h rfl rfl (fun y hy => vop_pickV hy (p := (true && ((decide (0 < x11)) == true))) (q := true) (by kernel_rfl) (by kernel_rfl) (by kernel_rfl) (by kernel_rfl) (fun hb => gc_t rfl hb) (fun _ => rfl)) ?_
   clear h; intro y5 h
   refine dnil_in (by kernel_rfl) (by kernel_rfl) (xi ?_)
   refine cd h (fun h => ?_) fun h => ?_
   refine oi ?_
   refine callg_step ⟨[(1000000, 5)], [(6000001, 5062501)], [], [], [], [(6000001, 5062501)], [], [5062501], []⟩ (m := gStrings_Builder_WriteString_x b5_1 [32]) (S' := fun (y : Int × (List Int)) => ⟨(31, (.tup [(vI y.1), .top])) :: (30, (vB y5)) :: (29, (.ite (true && ((decide (0 < x11)) == true)) (vB y4))) :: (28, (.ite (true && ((decide (0 < x11)) == true)) (vGToken y1))) :: (27, (.ite (true && ((decide (0 < x11)) == true)) (vGToken y3))) :: (26, (.ite (true && ((decide (0 < x11)) == true)) (.rp (cGToken y3)))) :: (25, (.ite (true && ((decide (0 < x11)) == true)) (vI (IntKind.wrap .i64 (x11 - 1))))) :: (24, (.ite (true && ((decide (0 < x11)) == true)) (vI x11))) :: (23, (.ite (true && ((decide (0 < x11)) == true)) (.d (.sl 3 (p0.map cGToken))))) :: (22, (.ite (true && ((decide (0 < x11)) == true)) (.fn 34 []))) :: a10.env, [(7, bGToken y1), (5, [(.bp 5 74), (.osl 5062501 5 1 (y.2.map cU8))])]⟩) h (OK_gStrings_Builder_WriteString_x b5_1 [32]) (by kernel_rfl) (by kernel_rfl) (by kernel_rfl) (by kernel_rfl) (fun y => by kernel_rfl) (fun y => by kernel_rfl) ?_
   clear h; intro y6 h
   refine ni ?_
   exact next_step (s' := stiJoined_iNeedsGap_J1 p0 x11 y1 y6.2) (wr [(5062501, .old 5062501)] (es (es (es (es (es (es (es er_nil))))))) (br_cons (c0 := [(.bp 5 74), (.osl 5062501 5 1 (y6.2.map cU8))]) (by kernel_rfl) (vrs_cons (vr_same (by kernel_rfl) (by kernel_rfl)) (vrs_cons (vr_old (t := 5062501) (by kernel_rfl) (by kernel_rfl)) (vrs_nil))) (bs_ br_nil))) (OK_iJoined_iNeedsGap_J1 x11 y1 y6.2 _ h)
   refine ki ?_
   exact next_step (s' := stiJoined_iNeedsGap_J1 p0 x11 y1 b5_1) (wr [(5062501, .old 5062501)] (es (es (es (es (es (es (es er_nil))))))) (br_cons (c0 := [(.bp 5 74), (.osl 5062501 5 1 (b5_1.map cU8))]) (by kernel_rfl) (vrs_cons (vr_same (by kernel_rfl) (by kernel_rfl)) (vrs_cons (vr_old (t := 5062501) (by kernel_rfl) (by kernel_rfl)) (vrs_nil))) (bs_ br_nil))) (OK_iJoined_iNeedsGap_J1 x11 y1 b5_1 _ h)
   refine ei (te (te (bh (xi (si (so ?_))))))
   refine callg_step ⟨[(1000000, 5)], [(6000001, 5062501)], [], [], [], [(6000001, 5062501)], [], [5062501], []⟩ (m := gStrings_Builder_Len_x b5_1) (S' := fun (y : Int) => ⟨(36, (vI y)) :: a4.env, [(5, [(.bp 5 74), (.osl 5062501 5 1 (b5_1.map cU8))])]⟩) h (OK_gStrings_Builder_Len_x b5_1) (by kernel_rfl) (by kernel_rfl) (by kernel_rfl) (by kernel_rfl) (fun y => by kernel_rfl) (fun y => by kernel_rfl) ?_
   clear h; intro y8 h
   let a11 : St := ⟨(37, (vB (decide (2000 < y8)))) :: (36, (vI y8)) :: a4.env, [(5, [(.bp 5 74), (.osl 5062501 5 1 (b5_1.map cU8))])]⟩
   refine st 1 a11 (nx ?_)
   refine cd h (fun h => ?_) fun h => ?_
   refine so ?_
   let a12 : St := a11.p [(4, (vS []))]
   refine st 1 a12 (nx (ri (tr ?_)))
   injection h with h; subst h
   exact r1 (v := (vS []))
   refine ki (xi (so ?_))
   refine callg_step ⟨[(1000000, 5)], [(6000001, 5062501)], [], [], [], [], [], [5062501], []⟩ (m := gStrings_Builder_String_x b5_1) (S' := fun (y : (List UInt8) × (List Int)) => ⟨(38, (vS y.1)) :: a11.env, [(5, [(.bp 5 74), (.d (.sl 1 (y.2.map cU8)))])]⟩) h (OK_gStrings_Builder_String_x b5_1) (by kernel_rfl) (by kernel_rfl) (by kernel_rfl) (by kernel_rfl) (fun y => by kernel_rfl) (fun y => by kernel_rfl) ?_
   clear h; intro y9 h
   let a13 : St := ⟨(4, (vS y9.1)) :: (38, (vS y9.1)) :: a11.env, [(5, [(.bp 5 74), (.d (.sl 1 (y9.2.map cU8)))])]⟩
   refine st 1 a13 (nx (ri ?_))
   injection h with h; subst h
   exact r1 (v := (vS y9.1))
theorem OK_iJoined_iNeedsGap_J1 (p0 : (List GToken)) (x11 : Int) (y1 : GToken) (b5_1_7 : (List Int)) (r : (List UInt8)) (h : iJoined_iNeedsGap_J1 p0 x11 y1 b5_1_7 = some r) : avc Tryz.prog aciJoined_iNeedsGap_J1 (qiJoined_iNeedsGap_4 r) (stiJoined_iNeedsGap_J1 p0 x11 y1 b5_1_7) := (OKs_iJoined_iNeedsGap_J1 p0).1 x11 y1 b5_1_7 r h
theorem OK_iJoined_iNeedsGap_L0 (p0 : (List GToken)) (x11 : Int) (b5_1 : (List Int)) (r : (List UInt8)) (h : iJoined_iNeedsGap_L0 p0 x11 b5_1 = some r) : avc Tryz.prog aciJoined_iNeedsGap_L0 (qiJoined_iNeedsGap_1 r) (stiJoined_iNeedsGap_L0 p0 x11 b5_1) := (OKs_iJoined_iNeedsGap_J1 p0).2 x11 b5_1 r h
theorem OK_iJoined_iNeedsGap (p0 : (List GToken)) : FOk Tryz.prog 31 [(.d (.sl 3 (p0.map cGToken))), (.fn 34 [])] (fun y => (vS y)) (iJoined_iNeedsGap p0) := by
 intro r h
 rw [iJoined_iNeedsGap] at h
 refine aof triJoined_iNeedsGap ?_
 show avc Tryz.prog aciJoined_iNeedsGap (qiJoined_iNeedsGap _) ⟨[(0, (.d (.sl 3 (p0.map cGToken)))), (1, (.fn 34 []))], []⟩
 delta aciJoined_iNeedsGap
 refine so ?_
 let a0 : St := ⟨[(4, (vS [])), (0, (.d (.sl 3 (p0.map cGToken)))), (1, (.fn 34 []))], []⟩
 refine st 1 a0 (nx (so (bldv_step (c := [.np, (.nil 1)]) (s' := ⟨(8, (.agv [.np, (.nil 1)])) :: a0.env, a0.bx⟩) (by kernel_rfl) (by kernel_rfl) (by kernel_rfl) ?_)))
 let a1 : St := ⟨(5, (.ptr 5 0)) :: (8, (.agv [.np, (.nil 1)])) :: a0.env, [(5, [(.bp 5 74), (.nil 1)])]⟩
 refine st 2 a1 (nx (si (so ?_)))
 let a2 : St := a1.p [(9, (.d (.sl 3 (p0.map cGToken))))]
 refine st 1 a2 (ps (vI (ln p0)) (vln (sz := 3) (l := p0) (f := cGToken)) ?_)
 let a3 : St := a2.p [(11, (vI 0)), (10, (vI (ln p0)))]
 refine st 1 a3 (nx (bi ?_))
 exact loop_go (s' := stiJoined_iNeedsGap_L0 p0 0 ([] : List Int)) (wr [(5062501, .new 5 1)] (es (es (es (es (es (es er_nil)))))) (br_cons (c0 := [(.bp 5 74), (.nil 1)]) (by kernel_rfl) (vrs_cons (vr_same (by kernel_rfl) (by kernel_rfl)) (vrs_cons (vr_new (by kernel_rfl) (by kernel_rfl)) (vrs_nil))) br_nil)) (OK_iJoined_iNeedsGap_L0 p0 0 ([] : List Int) _ h)
theorem OK_iSpaced (p0 : (List GToken)) : FOk Tryz.prog 15 [(.d (.sl 3 (p0.map cGToken)))] (fun y => (vS y)) (iSpaced p0) := by
 intro r h
 rw [iSpaced] at h
 refine aof triSpaced ?_
 show avc Tryz.prog aciSpaced (qiSpaced _) ⟨[(0, (.d (.sl 3 (p0.map cGToken))))], []⟩
 delta aciSpaced
 refine so ?_
 let a0 : St := ⟨[(2, (vS [])), (0, (.d (.sl 3 (p0.map cGToken))))], []⟩
 refine st 1 a0 (nx (so ?_))
 let a1 : St := a0.p [(3, (.d (.sl 3 (p0.map cGToken))))]
 refine st 1 a1 (cs h (OK_iJoined_iNeedsGap p0) fun y1 h => ?_)
 let a2 : St := a1.p [(2, (vS y1)), (4, (vS y1))]
 refine st 1 a2 (nx (ri ?_))
 injection h with h; subst h
 exact r1 (v := (vS y1))
theorem OK_iCatalogText (p0 : GCatalog) : FOk Tryz.prog 25 [(vGCatalog p0)] (fun y => (vS y)) (iCatalogText p0) := by
 intro r h
 rw [iCatalogText] at h
 refine aof triCatalogText ?_
 show avc Tryz.prog aciCatalogText (qiCatalogText _) ⟨[(0, (vGCatalog p0))], []⟩
 delta aciCatalogText
 refine so ?_
 let a0 : St := ⟨[(2, (vS [])), (1, (.ptr 1 0)), (0, (vGCatalog p0))], [(1, bGCatalog p0)]⟩
 refine st 2 a0 (nx (si (so ?_)))
 let a1 : St := a0.p [(3, (vGCatalog p0))]
 refine st 1 a1 (cs h (OK_iCatalogOk p0) fun y1 h => ?_)
 let a2 : St := a1.p [(5, (vB (!y1))), (4, (vB y1))]
 refine st 1 a2 (nx ?_)
 refine cd h (fun h => ?_) fun h => ?_
 refine so ?_
 let a3 : St := a2.p [(2, (vS []))]
 refine st 1 a3 (nx (ri (tr ?_)))
 injection h with h; subst h
 exact r1 (v := (vS []))
 refine ki (xi (so ?_))
 let a4 : St := a2.p [(6, (vGCatalog p0))]
 refine st 1 a4 (callg_step ⟨[], [], [], [], [], [(2000000, 7)], [], [7], []⟩ (m := iCatalogTokens p0) (S' := fun (y : (List GToken)) => ⟨(7, (.osl 7 53 3 (y.map cGToken))) :: a4.env, a4.bx⟩) h (OK_iCatalogTokens p0) (by kernel_rfl) (by kernel_rfl) (by kernel_rfl) (by kernel_rfl) (fun y => by kernel_rfl) (fun y => by kernel_rfl) ?_)
 clear h; intro y2 h
 refine cs h (OK_iSpaced y2) fun y3 h => ?_
 let a5 : St := a4.p [(2, (vS y3)), (8, (vS y3)), (7, (.osl 7 53 3 (y2.map cGToken)))]
 refine st 1 a5 (nx (ri ?_))
 injection h with h; subst h
 exact r1 (v := (vS y3))
theorem OKs_sColAt_L0 (p1 : (List UInt8)) (p0 : GTable) : (∀ (x5 : Int) (r : Int), sColAt_L0 p1 p0 x5 = some r → avc Tryz.prog acsColAt_L0 (qsColAt_1 r) (stsColAt_L0 p1 p0 x5)) := by
 refine sColAt_L0.partial_correctness p1 p0 (fun x5 r => avc Tryz.prog acsColAt_L0 (qsColAt_1 r) (stsColAt_L0 p1 p0 x5)) ?_
 · intro F_sColAt_L0 OK_sColAt_L0 x5 r h
   delta acsColAt_L0
   refine loop_unroll (si (so ?_))
   let a2 : St := (stsColAt_L0 p1 p0 x5).p [(8, (.d (.sl 2 (p0.cols.map cGCol)))), (7, (.ptr 2 1)), (6, (vI x5))]
   refine st 3 a2 (ps (vI (ln p0.cols)) (vln (sz := 2) (l := p0.cols) (f := cGCol)) ?_)
   let a3 : St := a2.p [(10, (vB (decide (x5 < (ln p0.cols))))), (9, (vI (ln p0.cols)))]
   refine st 1 a3 (nx ?_)
   refine cd h (fun h => ?_) fun h => ?_
   refine ki (xi (si (bi (so ?_))))
   let a4 : St := a3.p [(15, (vI x5)), (14, (.d (.sl 2 (p0.cols.map cGCol)))), (13, (.ptr 2 1))]
   refine st 3 a4 (vs (fun (y : GCol) => (.rp (cGCol y))) h (fun y hy => via (l := p0.cols) (f := cGCol) (g := cGCol) (k := .i64) hy (fun _ => rfl)) fun y1 h => ?_)
   let a5 : St := a4.p [(20, (vB (decide (y1.name = p1)))), (19, (vS p1)), (18, (vS y1.name)), (17, (.rp [(.s (bs y1.name)), (.i .i64 y1.type)])), (16, (.rp (cGCol y1)))]
   refine st 4 a5 (nx ?_)
   refine cd h (fun h => ?_) fun h => ?_
   refine so ?_
   let a6 : St := a5.p [(4, (vI x5)), (21, (vI x5))]
   refine st 2 a6 (nx (ri (br (tr (tr (br (tr ?_)))))))
   injection h with h; subst h
   exact r1 (v := (vI x5))
   refine ki (bn (xi (oi ?_)))
   let a7 : St := a5.p [(5, (vI (IntKind.wrap .i64 (x5 + 1)))), (12, (vI (IntKind.wrap .i64 (x5 + 1)))), (11, (vI x5))]
   exact st 3 a7 (ni (loop_back (s' := stsColAt_L0 p1 p0 (IntKind.wrap .i64 (x5 + 1))) (wr [] (es (es (es er_nil))) (bs_ br_nil)) (OK_sColAt_L0 (IntKind.wrap .i64 (x5 + 1)) _ h)))
   refine ei (te (te (bh (xi (so ?_)))))
   let a8 : St := a3.p [(4, (vI (-1)))]
   refine st 1 a8 (nx (ri ?_))
   injection h with h; subst h
   exact r1 (v := (vI (-1)))
theorem OK_sColAt_L0 (p1 : (List UInt8)) (p0 : GTable) (x5 : Int) (r : Int) (h : sColAt_L0 p1 p0 x5 = some r) : avc Tryz.prog acsColAt_L0 (qsColAt_1 r) (stsColAt_L0 p1 p0 x5) := (OKs_sColAt_L0 p1 p0) x5 r h
theorem OK_sColAt (p0 : GTable) (p1 : (List UInt8)) : FOk Tryz.prog 77 [(vGTable p0), (vS p1)] (fun y => (vI y)) (sColAt p0 p1) := by
 intro r h
 rw [sColAt] at h
 refine aof trsColAt ?_
 show avc Tryz.prog acsColAt (qsColAt _) ⟨[(0, (vGTable p0)), (1, (vS p1))], []⟩
 delta acsColAt
 refine so ?_
 let a0 : St := ⟨[(4, (vI 0)), (2, (.ptr 2 0)), (0, (vGTable p0)), (1, (vS p1))], [(2, bGTable p0)]⟩
 refine st 2 a0 (nx (si (so ?_)))
 let a1 : St := a0.p [(5, (vI 0))]
 exact st 1 a1 (nx (bi (loop_go (s' := stsColAt_L0 p1 p0 0) (wr [] (es (es (es er_nil))) (bs_ br_nil)) (OK_sColAt_L0 p1 p0 0 _ h))))
theorem OK_sL1In (p0 : Int) (p1 : Int) (p2 : Int) : FOk Tryz.prog 76 [(vI p0), (vI p1), (vI p2)] (fun y => (vB y)) (sL1In p0 p1 p2) := by
 intro r h
 rw [sL1In] at h
 refine aof trsL1In ?_
 show avc Tryz.prog acsL1In (qsL1In _) ⟨[(0, (vI p0)), (1, (vI p1)), (2, (vI p2))], []⟩
 delta acsL1In
 refine so ?_
 let a0 : St := ⟨[(6, (vB false)), (0, (vI p0)), (1, (vI p1)), (2, (vI p2))], []⟩
 refine st 1 a0 (nx (so ?_))
 let a1 : St := a0.p [(10, (vB (decide (p1 ≤ p0)))), (9, (vB (decide (p1 ≤ p0)))), (8, (vI p1)), (7, (vI p0))]
 refine st 4 a1 (gp true (decide (p1 ≤ p0)) (vI p0) (fun hc => vl) (gp true (decide (p1 ≤ p0)) (vI p2) (fun hc => vl) (gp true (decide (p1 ≤ p0)) (vB (decide (p0 ≤ p2))) (fun hc => vop_val1 (Eq.trans (b := ([(true && ((decide (p1 ≤ p0)) == true)), (true && ((decide (p1 ≤ p0)) == true))] : List Bool).all id) (by kernel_rfl) (all_c hc (all_c hc rfl))) (by kernel_rfl)) ?_)))
 refine vs (fun (y : Bool) => (vB y)) h (fun y hy => vop_pickV hy (p := (true && ((decide (p1 ≤ p0)) == true))) (q := true) (by kernel_rfl) (by kernel_rfl) (by kernel_rfl) (by kernel_rfl) (fun hb => gc_t rfl hb) (fun _ => rfl)) fun y1 h => ?_
 let a2 : St := a1.p [(6, (vB y1)), (14, (vB y1)), (13, (.ite (true && ((decide (p1 ≤ p0)) == true)) (vB (decide (p0 ≤ p2))))), (12, (.ite (true && ((decide (p1 ≤ p0)) == true)) (vI p2))), (11, (.ite (true && ((decide (p1 ≤ p0)) == true)) (vI p0)))]
 refine st 1 a2 (nx (ri ?_))
 injection h with h; subst h
 exact r1 (v := (vB y1))
theorem OK_sNameOk (p0 : (List UInt8)) : FOk Tryz.prog 74 [(vS p0)] (fun y => (vB y)) (sNameOk p0) := by
 intro r h
 rw [sNameOk] at h
 refine aof trsNameOk ?_
 show avc Tryz.prog acsNameOk (qsNameOk _) ⟨[(0, (vS p0))], []⟩
 delta acsNameOk
 refine so ?_
 let a0 : St := ⟨[(2, (vB false)), (0, (vS p0))], []⟩
 refine st 1 a0 (nx (so ?_))
 let a1 : St := a0.p [(4, (vI (ln p0))), (3, (vS p0))]
 refine st 2 a1 (cs h (OK_sL1In (ln p0) 1 20) fun y1 h => ?_)
 let a2 : St := a1.p [(2, (vB y1)), (5, (vB y1))]
 refine st 1 a2 (nx (ri ?_))
 injection h with h; subst h
 exact r1 (v := (vB y1))
theorem OKs_sTableAt_L0 (p1 : (List UInt8)) (p0 : GCatalog) : (∀ (x5 : Int) (r : Int), sTableAt_L0 p1 p0 x5 = some r → avc Tryz.prog acsTableAt_L0 (qsTableAt_1 r) (stsTableAt_L0 p1 p0 x5)) := by
 refine sTableAt_L0.partial_correctness p1 p0 (fun x5 r => avc Tryz.prog acsTableAt_L0 (qsTableAt_1 r) (stsTableAt_L0 p1 p0 x5)) ?_
 · intro F_sTableAt_L0 OK_sTableAt_L0 x5 r h
   delta acsTableAt_L0
   refine loop_unroll (si (so ?_))
   let a2 : St := (stsTableAt_L0 p1 p0 x5).p [(8, (.d (.sl 2 (p0.tables.map cGTable)))), (7, (.ptr 2 0)), (6, (vI x5))]
   refine st 3 a2 (ps (vI (ln p0.tables)) (vln (sz := 2) (l := p0.tables) (f := cGTable)) ?_)
   let a3 : St := a2.p [(10, (vB (decide (x5 < (ln p0.tables))))), (9, (vI (ln p0.tables)))]
   refine st 1 a3 (nx ?_)
   refine cd h (fun h => ?_) fun h => ?_
   refine ki (xi (si (bi (so ?_))))
   let a4 : St := a3.p [(15, (vI x5)), (14, (.d (.sl 2 (p0.tables.map cGTable)))), (13, (.ptr 2 0))]
   refine st 3 a4 (vs (fun (y : GTable) => (.rp (cGTable y))) h (fun y hy => via (l := p0.tables) (f := cGTable) (g := cGTable) (k := .i64) hy (fun _ => rfl)) fun y1 h => ?_)
   let a5 : St := a4.p [(20, (vB (decide (y1.name = p1)))), (19, (vS p1)), (18, (vS y1.name)), (17, (.rp [(.s (bs y1.name)), (.sl 2 (y1.cols.map cGCol))])), (16, (.rp (cGTable y1)))]
   refine st 4 a5 (nx ?_)
   refine cd h (fun h => ?_) fun h => ?_
   refine so ?_
   let a6 : St := a5.p [(4, (vI x5)), (21, (vI x5))]
   refine st 2 a6 (nx (ri (br (tr (tr (br (tr ?_)))))))
   injection h with h; subst h
   exact r1 (v := (vI x5))
   refine ki (bn (xi (oi ?_)))
   let a7 : St := a5.p [(5, (vI (IntKind.wrap .i64 (x5 + 1)))), (12, (vI (IntKind.wrap .i64 (x5 + 1)))), (11, (vI x5))]
   exact st 3 a7 (ni (loop_back (s' := stsTableAt_L0 p1 p0 (IntKind.wrap .i64 (x5 + 1))) (wr [] (es (es (es er_nil))) (bs_ br_nil)) (OK_sTableAt_L0 (IntKind.wrap .i64 (x5 + 1)) _ h)))
   refine ei (te (te (bh (xi (so ?_)))))
   let a8 : St := a3.p [(4, (vI (-1)))]
   refine st 1 a8 (nx (ri ?_))
   injection h with h; subst h
   exact r1 (v := (vI (-1)))
theorem OK_sTableAt_L0 (p1 : (List UInt8)) (p0 : GCatalog) (x5 : Int) (r : Int) (h : sTableAt_L0 p1 p0 x5 = some r) : avc Tryz.prog acsTableAt_L0 (qsTableAt_1 r) (stsTableAt_L0 p1 p0 x5) := (OKs_sTableAt_L0 p1 p0) x5 r h
theorem OK_sTableAt (p0 : GCatalog) (p1 : (List UInt8)) : FOk Tryz.prog 75 [(vGCatalog p0), (vS p1)] (fun y => (vI y)) (sTableAt p0 p1) := by
 intro r h
 rw [sTableAt] at h
 refine aof trsTableAt ?_
 show avc Tryz.prog acsTableAt (qsTableAt _) ⟨[(0, (vGCatalog p0)), (1, (vS p1))], []⟩
 delta acsTableAt
 refine so ?_
 let a0 : St := ⟨[(4, (vI 0)), (2, (.ptr 2 0)), (0, (vGCatalog p0)), (1, (vS p1))], [(2, bGCatalog p0)]⟩
 refine st 2 a0 (nx (si (so ?_)))
 let a1 : St := a0.p [(5, (vI 0))]
 exact st 1 a1 (nx (bi (loop_go (s' := stsTableAt_L0 p1 p0 0) (wr [] (es (es (es er_nil))) (bs_ br_nil)) (OK_sTableAt_L0 p1 p0 0 _ h))))
theorem OKs_sCatalogOk_L1 (p0 : GCatalog) : (∀ (x3 : Int) (y1 : GTable) (x5 : Int) (r : Bool), sCatalogOk_L1 x3 p0 y1 x5 = some r → avc Tryz.prog acsCatalogOk_L1 (qsCatalogOk_5 r) (stsCatalogOk_L1 x3 p0 y1 x5)) ∧ (∀ (x3 : Int) (r : Bool), sCatalogOk_L0 p0 x3 = some r → avc Tryz.prog acsCatalogOk_L0 (qsCatalogOk_1 r) (stsCatalogOk_L0 p0 x3)) := by
 refine sCatalogOk_L1.mutual_partial_correctness p0 (fun x3 y1 x5 r => avc Tryz.prog acsCatalogOk_L1 (qsCatalogOk_5 r) (stsCatalogOk_L1 x3 p0 y1 x5)) (fun x3 r => avc Tryz.prog acsCatalogOk_L0 (qsCatalogOk_1 r) (stsCatalogOk_L0 p0 x3)) ?_ ?_
 · intro F_sCatalogOk_L1 F_sCatalogOk_L0 OK_sCatalogOk_L1 OK_sCatalogOk_L0 x3 y1 x5 r h
   delta acsCatalogOk_L1
   refine loop_unroll (si (so ?_))
   let a15 : St := (stsCatalogOk_L1 x3 p0 y1 x5).p [(43, (.d (.sl 2 (y1.cols.map cGCol)))), (42, (.ptr 4 1)), (41, (vI x5))]
   refine st 3 a15 (ps (vI (ln y1.cols)) (vln (sz := 2) (l := y1.cols) (f := cGCol)) ?_)
   let a16 : St := a15.p [(45, (vB (decide (x5 < (ln y1.cols))))), (44, (vI (ln y1.cols)))]
   refine st 1 a16 (nx ?_)
   refine cd h (fun h => ?_) fun h => ?_
   refine ki (xi (si (bi (si (dops_in ?_)))))
   let a17 : St := a16.p [(50, (vI x5)), (49, (.d (.sl 2 (y1.cols.map cGCol)))), (48, (.ptr 4 1))]
   refine dsts_ok 3 (s' := a17) (by kernel_rfl) (dv_step (m := idx y1.cols x5) (v' := fun y => (.rp (cGCol y))) h rfl rfl (fun y hy => via (l := y1.cols) (f := cGCol) (g := cGCol) (k := .i64) hy (fun _ => rfl)) ?_)
   clear h; intro y7 h
   let a18 : St := a17.p [(53, (vS y7.name)), (52, (.rp [(.s (bs y7.name)), (.i .i64 y7.type)])), (51, (.rp (cGCol y7)))]
   refine dsts_ok 2 (s' := a18) (by kernel_rfl) (dcall_step (m := sNameOk y7.name) (args := [(vS y7.name)]) (v' := (fun y => (vB y))) h (OK_sNameOk y7.name) (by kernel_rfl) (by kernel_rfl) (fun _ => rfl) ?_)
   clear h; intro y8 h
   let a19 : St := a18.p [(56, (vB (!y8))), (55, (vB (!y8))), (54, (vB y8))]
   refine dsts_ok 2 (s' := a19) (by kernel_rfl) (dgp_step (p := true) (b := (!y8)) (v' := (vGTable y1)) (by kernel_rfl) rfl rfl (fun hc => vl) (dgp_step (p := true) (b := (!y8)) (v' := (.ptr 4 1)) (by kernel_rfl) rfl rfl (fun hc => vl) (dgp_step (p := true) (b := (!y8)) (v' := (.d (.sl 2 (y1.cols.map cGCol)))) (by kernel_rfl) rfl rfl (fun hc => vg hc) ?_)))
   refine dgp_step (p := true) (b := (!y8)) (v' := (vI x5)) (by kernel_rfl) rfl rfl (fun hc => vl) ?_
   refine dgv_step (p := true) (b := (!y8)) (m := idx y1.cols x5) (dflt := default) (v' := fun y => (.rp (cGCol y))) h (by kernel_rfl) rfl rfl (fun y hy hc => vop_ia (l := y1.cols) (f := cGCol) (g := cGCol) (k := .i64) hy (fun _ => rfl) (Eq.trans (b := ([(true && ((!y8) == false)), (true && ((!y8) == false))] : List Bool).all id) (by kernel_rfl) (all_c hc (all_c hc rfl))) (by kernel_rfl) (by kernel_rfl)) ?_
   clear h; intro y9 h
   refine dgp_step (p := true) (b := (!y8)) (v' := (.rp [(.s (bs y9.name)), (.i .i64 y9.type)])) (by kernel_rfl) rfl rfl (fun hc => vg hc) (dgp_step (p := true) (b := (!y8)) (v' := (vS y9.name)) (by kernel_rfl) rfl rfl (fun hc => vg hc) ?_)
   refine dgcall_step (p := true) (b := (!y8)) (m := sColAt y1 y9.name) (dflt := default) (args := [(vGTable y1), (vS y9.name)]) (v' := (fun y => (vI y))) h (by kernel_rfl) (OK_sColAt y1 y9.name) (fun hc => by kernel_rfl) (by kernel_rfl) (fun _ => rfl) (fun hc => (Eq.trans (b := ([(true && ((!y8) == false)), (true && ((!y8) == false))] : List Bool).all id) (by kernel_rfl) (all_c hc (all_c hc rfl)))) ?_
   clear h; intro y10 h
   refine dgp_step (p := true) (b := (!y8)) (v' := (vI x5)) (by kernel_rfl) rfl rfl (fun hc => vl) (dgp_step (p := true) (b := (!y8)) (v' := (vB (!decide (y10 = x5)))) (by kernel_rfl) rfl rfl (fun hc => vop_val1 (Eq.trans (b := ([(true && ((!y8) == false)), (true && ((!y8) == false))] : List Bool).all id) (by kernel_rfl) (all_c hc (all_c hc rfl))) (by kernel_rfl)) ?_)
   refine dv_step (m := some (if (!y8) = true then true else (!decide (y10 = x5)))) (v' := fun y => (vB y)) h rfl rfl (fun y hy => vop_pickV hy (p := true) (q := (true && ((!y8) == false))) (by kernel_rfl) (by kernel_rfl) (by kernel_rfl) (by kernel_rfl) (fun _ => rfl) (fun hb => gc_f rfl hb)) ?_
   clear h; intro y11 h
   let a20 : St := a19.p [(68, (vB y11)), (67, (vB y11)), (66, (.ite (true && ((!y8) == false)) (vB (!decide (y10 = x5))))), (65, (.ite (true && ((!y8) == false)) (vI x5))), (64, (.ite (true && ((!y8) == false)) (vI y10))), (63, (.ite (true && ((!y8) == false)) (vS y9.name))), (62, (.ite (true && ((!y8) == false)) (.rp [(.s (bs y9.name)), (.i .i64 y9.type)]))), (61, (.ite (true && ((!y8) == false)) (.rp (cGCol y9)))), (60, (.ite (true && ((!y8) == false)) (vI x5))), (59, (.ite (true && ((!y8) == false)) (.d (.sl 2 (y1.cols.map cGCol))))), (58, (.ite (true && ((!y8) == false)) (.ptr 4 1))), (57, (.ite (true && ((!y8) == false)) (vGTable y1)))]
   refine dsts_ok 1 (s' := a20) (by kernel_rfl) (dgp_step (p := true) (b := y11) (v' := (.ptr 4 1)) (by kernel_rfl) rfl rfl (fun hc => vl) (dgp_step (p := true) (b := y11) (v' := (.d (.sl 2 (y1.cols.map cGCol)))) (by kernel_rfl) rfl rfl (fun hc => vg hc) (dgp_step (p := true) (b := y11) (v' := (vI x5)) (by kernel_rfl) rfl rfl (fun hc => vl) ?_)))
   refine dgv_step (p := true) (b := y11) (m := idx y1.cols x5) (dflt := default) (v' := fun y => (.rp (cGCol y))) h (by kernel_rfl) rfl rfl (fun y hy hc => vop_ia (l := y1.cols) (f := cGCol) (g := cGCol) (k := .i64) hy (fun _ => rfl) (Eq.trans (b := ([(true && (y11 == false)), (true && (y11 == false))] : List Bool).all id) (by kernel_rfl) (all_c hc (all_c hc rfl))) (by kernel_rfl) (by kernel_rfl)) ?_
   clear h; intro y12 h
   refine dgp_step (p := true) (b := y11) (v' := (.rp [(.i .i64 y12.type)])) (by kernel_rfl) rfl rfl (fun hc => vg hc) (dgp_step (p := true) (b := y11) (v' := (vI y12.type)) (by kernel_rfl) rfl rfl (fun hc => vg hc) ?_)
   refine dgcall_step (p := true) (b := y11) (m := sL1In y12.type 1 3) (dflt := default) (args := [(vI y12.type), (vI 1), (vI 3)]) (v' := (fun y => (vB y))) h (by kernel_rfl) (OK_sL1In y12.type 1 3) (fun hc => by kernel_rfl) (by kernel_rfl) (fun _ => rfl) (fun hc => (Eq.trans (b := ([(true && (y11 == false))] : List Bool).all id) (by kernel_rfl) (all_c hc rfl))) ?_
   clear h; intro y13 h
   refine dgp_step (p := true) (b := y11) (v' := (vB (!y13))) (by kernel_rfl) rfl rfl (fun hc => vg hc) (dv_step (m := some (if y11 = true then true else (!y13))) (v' := fun y => (vB y)) h rfl rfl (fun y hy => vop_pickV hy (p := true) (q := (true && (y11 == false))) (by kernel_rfl) (by kernel_rfl) (by kernel_rfl) (by kernel_rfl) (fun _ => rfl) (fun hb => gc_f rfl hb)) ?_)
   clear h; intro y14 h
   refine dnil_in (by kernel_rfl) (by kernel_rfl) (xi ?_)
   refine cd h (fun h => ?_) fun h => ?_
   refine so ?_
   let a21 : St := a20.p [(2, (vB false)), (77, (vB y14)), (76, (.ite (gF y11) (vB (!y13)))), (75, (.ite (gF y11) (vB y13))), (74, (.ite (gF y11) (vI y12.type))), (73, (.ite (gF y11) (.rp [(.i .i64 y12.type)]))), (72, (.ite (gF y11) (.rp (cGCol y12)))), (71, (.ite (gF y11) (vI x5))), (70, (.ite (gF y11) (.d (.sl 2 (y1.cols.map cGCol))))), (69, (.ite (gF y11) (.ptr 4 1)))]
   refine st 1 a21 (nx (ri (br (tr (tr (br (br (tr (tr (br (tr ?_)))))))))))
   injection h with h; subst h
   exact r1 (v := (vB false))
   refine ki (bn (xi (oi ?_)))
   let a22 : St := a20.p [(5, (vI (IntKind.wrap .i64 (x5 + 1)))), (47, (vI (IntKind.wrap .i64 (x5 + 1)))), (46, (vI x5)), (77, (vB y14)), (76, (.ite (gF y11) (vB (!y13)))), (75, (.ite (gF y11) (vB y13))), (74, (.ite (gF y11) (vI y12.type))), (73, (.ite (gF y11) (.rp [(.i .i64 y12.type)]))), (72, (.ite (gF y11) (.rp (cGCol y12)))), (71, (.ite (gF y11) (vI x5))), (70, (.ite (gF y11) (.d (.sl 2 (y1.cols.map cGCol))))), (69, (.ite (gF y11) (.ptr 4 1)))]
   exact st 3 a22 (ni (loop_back (s' := stsCatalogOk_L1 x3 p0 y1 (IntKind.wrap .i64 (x5 + 1))) (wr [] (es (es (es (es er_nil)))) (bs_ (bs_ br_nil))) (OK_sCatalogOk_L1 x3 y1 (IntKind.wrap .i64 (x5 + 1)) _ h)))
   refine ei (te (te (bh (bn (xi (oi ?_))))))
   let a23 : St := a16.p [(3, (vI (IntKind.wrap .i64 (x3 + 1)))), (16, (vI (IntKind.wrap .i64 (x3 + 1)))), (15, (vI x3))]
   exact st 3 a23 (ni (loop_back (s' := stsCatalogOk_L0 p0 (IntKind.wrap .i64 (x3 + 1))) (wr [] (es (es er_nil)) (bs_ br_nil)) (OK_sCatalogOk_L0 (IntKind.wrap .i64 (x3 + 1)) _ h)))
 · intro F_sCatalogOk_L1 OK_sCatalogOk_L1 x3 r h
   delta acsCatalogOk_L0
   refine loop_unroll (si (so ?_))
   let a5 : St := (stsCatalogOk_L0 p0 x3).p [(12, (.d (.sl 2 (p0.tables.map cGTable)))), (11, (.ptr 1 0)), (10, (vI x3))]
   refine st 3 a5 (ps (vI (ln p0.tables)) (vln (sz := 2) (l := p0.tables) (f := cGTable)) ?_)
   let a6 : St := a5.p [(14, (vB (decide (x3 < (ln p0.tables))))), (13, (vI (ln p0.tables)))]
   refine st 1 a6 (nx ?_)
   refine cd h (fun h => ?_) fun h => ?_
   refine ki (xi (si (bi (so ?_))))
   let a7 : St := a6.p [(19, (vI x3)), (18, (.d (.sl 2 (p0.tables.map cGTable)))), (17, (.ptr 1 0))]
   refine st 3 a7 (vs (fun (y : GTable) => (.rp (cGTable y))) h (fun y hy => via (l := p0.tables) (f := cGTable) (g := cGTable) (k := .i64) hy (fun _ => rfl)) fun y1 h => ?_)
   let a8 : St := ⟨(4, (.ptr 4 0)) :: (21, (vGTable y1)) :: (20, (.rp (cGTable y1))) :: a7.env, [(4, bGTable y1), (1, bGCatalog p0)]⟩
   refine st 3 a8 (nx (si (so ?_)))
   let a9 : St := a8.p [(23, (vS y1.name)), (22, (.ptr 4 0))]
   refine st 2 a9 (cs h (OK_sNameOk y1.name) fun y2 h => ?_)
   let a10 : St := a9.p [(26, (vB (!y2))), (25, (vB (!y2))), (24, (vB y2))]
   refine st 2 a10 (gp true (!y2) (vGCatalog p0) (fun hc => vl) (gp true (!y2) (.ptr 4 0) (fun hc => vl) (gp true (!y2) (vS y1.name) (fun hc => vg hc) ?_)))
   refine gcall_step (p := true) (b := (!y2)) (m := sTableAt p0 y1.name) (dflt := default) (args := [(vGCatalog p0), (vS y1.name)]) (v' := (fun y => (vI y))) h (by kernel_rfl) (OK_sTableAt p0 y1.name) (fun hc => by kernel_rfl) (by kernel_rfl) (fun _ => rfl) (fun hc => (Eq.trans (b := ([(true && ((!y2) == false)), (true && ((!y2) == false))] : List Bool).all id) (by kernel_rfl) (all_c hc (all_c hc rfl)))) ?_
   clear h; intro y3 h
   refine gp true (!y2) (vI x3) (fun hc => vl) (gp true (!y2) (vB (!decide (y3 = x3))) (fun hc => vop_val1 (Eq.trans (b := ([(true && ((!y2) == false)), (true && ((!y2) == false))] : List Bool).all id) (by kernel_rfl) (all_c hc (all_c hc rfl))) (by kernel_rfl)) ?_)
   refine vs (fun (y : Bool) => (vB y)) h (fun y hy => vop_pickV hy (p := true) (q := (true && ((!y2) == false))) (by kernel_rfl) (by kernel_rfl) (by kernel_rfl) (by kernel_rfl) (fun _ => rfl) (fun hb => gc_f rfl hb)) fun y4 h => ?_
   let a11 : St := a10.p [(34, (vB y4)), (33, (vB y4)), (32, (.ite (true && ((!y2) == false)) (vB (!decide (y3 = x3))))), (31, (.ite (true && ((!y2) == false)) (vI x3))), (30, (.ite (true && ((!y2) == false)) (vI y3))), (29, (.ite (true && ((!y2) == false)) (vS y1.name))), (28, (.ite (true && ((!y2) == false)) (.ptr 4 0))), (27, (.ite (true && ((!y2) == false)) (vGCatalog p0)))]
   refine st 1 a11 (gp true y4 (.ptr 4 1) (fun hc => vl) (gp true y4 (.d (.sl 2 (y1.cols.map cGCol))) (fun hc => vg hc) (gp true y4 (vI (ln y1.cols)) (fun hc => vop_len (sz := 2) (l := y1.cols) (f := cGCol) (Eq.trans (b := ([(true && (y4 == false))] : List Bool).all id) (by kernel_rfl) (all_c hc rfl)) (by kernel_rfl)) ?_)))
   refine gcall_step (p := true) (b := y4) (m := sL1In (ln y1.cols) 1 4) (dflt := default) (args := [(vI (ln y1.cols)), (vI 1), (vI 4)]) (v' := (fun y => (vB y))) h (by kernel_rfl) (OK_sL1In (ln y1.cols) 1 4) (fun hc => by kernel_rfl) (by kernel_rfl) (fun _ => rfl) (fun hc => (Eq.trans (b := ([(true && (y4 == false))] : List Bool).all id) (by kernel_rfl) (all_c hc rfl))) ?_
   clear h; intro y5 h
   refine gp true y4 (vB (!y5)) (fun hc => vg hc) (vs (fun (y : Bool) => (vB y)) h (fun y hy => vop_pickV hy (p := true) (q := (true && (y4 == false))) (by kernel_rfl) (by kernel_rfl) (by kernel_rfl) (by kernel_rfl) (fun _ => rfl) (fun hb => gc_f rfl hb)) fun y6 h => (nx ?_))
   refine cd h (fun h => ?_) fun h => ?_
   refine so ?_
   let a12 : St := a11.p [(2, (vB false)), (40, (vB y6)), (39, (.ite (gF y4) (vB (!y5)))), (38, (.ite (gF y4) (vB y5))), (37, (.ite (gF y4) (vI (ln y1.cols)))), (36, (.ite (gF y4) (.d (.sl 2 (y1.cols.map cGCol))))), (35, (.ite (gF y4) (.ptr 4 1)))]
   refine st 1 a12 (nx (ri (tr (br (tr (tr (br (tr ?_))))))))
   injection h with h; subst h
   exact r1 (v := (vB false))
   refine ki (xi (so ?_))
   let a13 : St := a11.p [(5, (vI 0)), (40, (vB y6)), (39, (.ite (gF y4) (vB (!y5)))), (38, (.ite (gF y4) (vB y5))), (37, (.ite (gF y4) (vI (ln y1.cols)))), (36, (.ite (gF y4) (.d (.sl 2 (y1.cols.map cGCol))))), (35, (.ite (gF y4) (.ptr 4 1)))]
   exact st 1 a13 (nx (bi (loop_go (s' := stsCatalogOk_L1 x3 p0 y1 0) (wr [] (es (es (es (es er_nil)))) (bs_ (bs_ br_nil))) (OK_sCatalogOk_L1 x3 y1 0 _ h))))
   refine ei (te (te (bh (xi (so ?_)))))
   let a14 : St := a6.p [(2, (vB true))]
   refine st 1 a14 (nx (ri ?_))
   injection h with h; subst h
   exact r1 (v := (vB true))
theorem OK_sCatalogOk_L1 (x3 : Int) (p0 : GCatalog) (y1 : GTable) (x5 : Int) (r : Bool) (h : sCatalogOk_L1 x3 p0 y1 x5 = some r) : avc Tryz.prog acsCatalogOk_L1 (qsCatalogOk_5 r) (stsCatalogOk_L1 x3 p0 y1 x5) := (OKs_sCatalogOk_L1 p0).1 x3 y1 x5 r h
theorem OK_sCatalogOk_L0 (p0 : GCatalog) (x3 : Int) (r : Bool) (h : sCatalogOk_L0 p0 x3 = some r) : avc Tryz.prog acsCatalogOk_L0 (qsCatalogOk_1 r) (stsCatalogOk_L0 p0 x3) := (OKs_sCatalogOk_L1 p0).2 x3 r h
theorem OK_sCatalogOk (p0 : GCatalog) : FOk Tryz.prog 41 [(vGCatalog p0)] (fun y => (vB y)) (sCatalogOk p0) := by
 intro r h
 rw [sCatalogOk] at h
 refine aof trsCatalogOk ?_
 show avc Tryz.prog acsCatalogOk (qsCatalogOk _) ⟨[(0, (vGCatalog p0))], []⟩
 delta acsCatalogOk
 refine so ?_
 let a0 : St := ⟨[(2, (vB false)), (1, (.ptr 1 0)), (0, (vGCatalog p0))], [(1, bGCatalog p0)]⟩
 refine st 2 a0 (nx (si (so ?_)))
 let a1 : St := a0.p [(7, (.d (.sl 2 (p0.tables.map cGTable)))), (6, (.ptr 1 0))]
 refine st 2 a1 (ps (vI (ln p0.tables)) (vln (sz := 2) (l := p0.tables) (f := cGTable)) ?_)
 let a2 : St := a1.p [(9, (vB (decide (4 < (ln p0.tables))))), (8, (vI (ln p0.tables)))]
 refine st 1 a2 (nx ?_)
 refine cd h (fun h => ?_) fun h => ?_
 refine so ?_
 let a3 : St := a2.p [(2, (vB false))]
 refine st 1 a3 (nx (ri (tr ?_)))
 injection h with h; subst h
 exact r1 (v := (vB false))
 refine ki (xi (si (so ?_)))
 let a4 : St := a2.p [(3, (vI 0))]
 exact st 1 a4 (nx (bi (loop_go (s' := stsCatalogOk_L0 p0 0) (wr [] (es (es er_nil)) (bs_ br_nil)) (OK_sCatalogOk_L0 p0 0 _ h))))
theorem OK_sL10Sign (p0 : (List UInt8)) : FOk Tryz.prog 78 [(vS p0)] (fun y => (vGToken y)) (sL10Sign p0) := by
 intro r h
 rw [sL10Sign] at h
 refine aof trsL10Sign ?_
 show avc Tryz.prog acsL10Sign (qsL10Sign _) ⟨[(0, (vS p0))], []⟩
 delta acsL10Sign
 refine so ?_
 let a0 : St := ⟨[(2, (.ptr 2 0)), (0, (vS p0))], [(2, [(vI 0), (vS []), (vI 0)])]⟩
 refine st 1 a0 (nx (so ?_))
 let a1 : St := ⟨(4, (vGToken (GToken.mk 5 p0 0))) :: (3, (vS p0)) :: a0.env, [(2, bGToken (GToken.mk 5 p0 0))]⟩
 refine st 3 a1 (nx (ri ?_))
 injection h with h; subst h
 exact r1 (v := (vGToken (GToken.mk 5 p0 0)))
theorem OK_sL10Name (p0 : (List UInt8)) : FOk Tryz.prog 79 [(vS p0)] (fun y => (vGToken y)) (sL10Name p0) := by
 intro r h
 rw [sL10Name] at h
 refine aof trsL10Name ?_
 show avc Tryz.prog acsL10Name (qsL10Name _) ⟨[(0, (vS p0))], []⟩
 delta acsL10Name
 refine so ?_
 let a0 : St := ⟨[(2, (.ptr 2 0)), (0, (vS p0))], [(2, [(vI 0), (vS []), (vI 0)])]⟩
 refine st 1 a0 (nx (so ?_))
 let a1 : St := ⟨(4, (vGToken (GToken.mk 2 p0 0))) :: (3, (vS p0)) :: a0.env, [(2, bGToken (GToken.mk 2 p0 0))]⟩
 refine st 3 a1 (nx (ri ?_))
 injection h with h; subst h
 exact r1 (v := (vGToken (GToken.mk 2 p0 0)))
theorem OK_sTypeText (p0 : Int) : FOk Tryz.prog 80 [(vI p0)] (fun y => (vS y)) (sTypeText p0) := by
 intro r h
 rw [sTypeText] at h
 refine aof trsTypeText ?_
 show avc Tryz.prog acsTypeText (qsTypeText _) ⟨[(0, (vI p0))], []⟩
 delta acsTypeText
 refine so ?_
 let a0 : St := ⟨[(2, (vS [])), (0, (vI p0))], []⟩
 refine st 1 a0 (nx (si (so ?_)))
 let a1 : St := a0.p [(3, (vI p0))]
 refine st 1 a1 (cs h (OK_sL1In p0 0 3) fun y1 h => ?_)
 let a2 : St := a1.p [(5, (vB (!y1))), (4, (vB y1))]
 refine st 1 a2 (nx ?_)
 refine cd h (fun h => ?_) fun h => ?_
 refine so ?_
 let a3 : St := a2.p [(2, (vS []))]
 refine st 1 a3 (nx (ri (tr ?_)))
 injection h with h; subst h
 exact r1 (v := (vS []))
 refine ki (xi (so (bsl_step (l := ([[65, 78, 89], [73, 78, 84], [84, 69, 88, 84], [66, 79, 79, 76]] : List (List UInt8))) (f := cStr) (g := cStr) (by kernel_rfl) (fun _ => rfl) (by kernel_rfl) ?_)))
 let a4 : St := a2.p [(7, (vI p0)), (6, (.osl 6 9 1 (([[65, 78, 89], [73, 78, 84], [84, 69, 88, 84], [66, 79, 79, 76]] : List (List UInt8)).map cStr)))]
 refine st 1 a4 (vs (fun (y : (List UInt8)) => (.rp [(.s (bs y))])) h (fun y hy => via (l := ([[65, 78, 89], [73, 78, 84], [84, 69, 88, 84], [66, 79, 79, 76]] : List (List UInt8))) (f := cStr) (g := cStr) (k := .i64) hy (fun _ => rfl)) fun y2 h => ?_)
 let a5 : St := a4.p [(2, (vS y2)), (9, (vS y2)), (8, (.rp [(.s (bs y2))]))]
 refine st 2 a5 (nx (ri ?_))
 injection h with h; subst h
 exact r1 (v := (vS y2))
theorem OKs_sL16Tokens_J3 (p0 : GCatalog) : (∀ (x4 : Int) (x5 : Int) (x3_12 : (List GToken)) (r : (List GToken)), sL16Tokens_J3 x4 x5 p0 x3_12 = some r → avc Tryz.prog acsL16Tokens_J3 (qsL16Tokens_9 r) (stsL16Tokens_J3 x4 x5 p0 x3_12)) ∧ (∀ (x4 : Int) (x3_8 : (List GToken)) (x5 : Int) (r : (List GToken)), sL16Tokens_L2 x4 p0 x3_8 x5 = some r → avc Tryz.prog acsL16Tokens_L2 (qsL16Tokens_6 r) (stsL16Tokens_L2 x4 p0 x3_8 x5)) ∧ (∀ (x3 : (List GToken)) (x4 : Int) (r : (List GToken)), sL16Tokens_L0 p0 x3 x4 = some r → avc Tryz.prog acsL16Tokens_L0 (qsL16Tokens_1 r) (stsL16Tokens_L0 p0 x3 x4)) ∧ (∀ (x4 : Int) (x3_3 : (List GToken)) (r : (List GToken)), sL16Tokens_J1 x4 p0 x3_3 = some r → avc Tryz.prog acsL16Tokens_J1 (qsL16Tokens_4 r) (stsL16Tokens_J1 x4 p0 x3_3)) := by
 refine sL16Tokens_J3.mutual_partial_correctness p0 (fun x4 x5 x3_12 r => avc Tryz.prog acsL16Tokens_J3 (qsL16Tokens_9 r) (stsL16Tokens_J3 x4 x5 p0 x3_12)) (fun x4 x3_8 x5 r => avc Tryz.prog acsL16Tokens_L2 (qsL16Tokens_6 r) (stsL16Tokens_L2 x4 p0 x3_8 x5)) (fun x3 x4 r => avc Tryz.prog acsL16Tokens_L0 (qsL16Tokens_1 r) (stsL16Tokens_L0 p0 x3 x4)) (fun x4 x3_3 r => avc Tryz.prog acsL16Tokens_J1 (qsL16Tokens_4 r) (stsL16Tokens_J1 x4 p0 x3_3)) ?_ ?_ ?_ ?_
 · intro F_sL16Tokens_L2 OK_sL16Tokens_L2 x4 x5 x3_12 r h
   delta acsL16Tokens_J3
   refine dops_in ?_
   let a22 : St := (stsL16Tokens_J3 x4 x5 p0 x3_12).p [(51, (vI x4)), (50, (.d (.sl 2 (p0.tables.map cGTable)))), (49, (.ptr 1 0)), (48, (.osl 3 53 3 (x3_12.map cGToken)))]
   refine dsts_ok 4 (s' := a22) (by kernel_rfl) (dv_step (m := idx p0.tables x4) (v' := fun y => (.rp (cGTable y))) h rfl rfl (fun y hy => via (l := p0.tables) (f := cGTable) (g := cGTable) (k := .i64) hy (fun _ => rfl)) ?_)
   clear h; intro y15 h
   let a23 : St := a22.p [(55, (vI x5)), (54, (.d (.sl 2 (y15.cols.map cGCol)))), (53, (.rp [(.sl 2 (y15.cols.map cGCol))])), (52, (.rp (cGTable y15)))]
   refine dsts_ok 3 (s' := a23) (by kernel_rfl) (dv_step (m := idx y15.cols x5) (v' := fun y => (.rp (cGCol y))) h rfl rfl (fun y hy => via (l := y15.cols) (f := cGCol) (g := cGCol) (k := .i64) hy (fun _ => rfl)) ?_)
   clear h; intro y16 h
   let a24 : St := a23.p [(58, (vS y16.name)), (57, (.rp [(.s (bs y16.name)), (.i .i64 y16.type)])), (56, (.rp (cGCol y16)))]
   refine dsts_ok 2 (s' := a24) (by kernel_rfl) (dcall_step (m := sL10Name y16.name) (args := [(vS y16.name)]) (v' := (fun y => (vGToken y))) h (OK_sL10Name y16.name) (by kernel_rfl) (by kernel_rfl) (fun _ => rfl) ?_)
   clear h; intro y17 h
   let a25 : St := a24.p [(62, (vI x4)), (61, (.d (.sl 2 (p0.tables.map cGTable)))), (60, (.ptr 1 0)), (59, (vGToken y17))]
   refine dsts_ok 3 (s' := a25) (by kernel_rfl) (dv_step (m := idx p0.tables x4) (v' := fun y => (.rp (cGTable y))) h rfl rfl (fun y hy => via (l := p0.tables) (f := cGTable) (g := cGTable) (k := .i64) hy (fun _ => rfl)) ?_)
   clear h; intro y18 h
   let a26 : St := a25.p [(66, (vI x5)), (65, (.d (.sl 2 (y18.cols.map cGCol)))), (64, (.rp [(.sl 2 (y18.cols.map cGCol))])), (63, (.rp (cGTable y18)))]
   refine dsts_ok 3 (s' := a26) (by kernel_rfl) (dv_step (m := idx y18.cols x5) (v' := fun y => (.rp (cGCol y))) h rfl rfl (fun y hy => via (l := y18.cols) (f := cGCol) (g := cGCol) (k := .i64) hy (fun _ => rfl)) ?_)
   clear h; intro y19 h
   let a27 : St := a26.p [(69, (vI y19.type)), (68, (.rp [(.i .i64 y19.type)])), (67, (.rp (cGCol y19)))]
   refine dsts_ok 2 (s' := a27) (by kernel_rfl) (dcall_step (m := sTypeText y19.type) (args := [(vI y19.type)]) (v' := (fun y => (vS y))) h (OK_sTypeText y19.type) (by kernel_rfl) (by kernel_rfl) (fun _ => rfl) ?_)
   clear h; intro y20 h
   refine dcall_step (m := sL10Name y20) (args := [(vS y20)]) (v' := (fun y => (vGToken y))) h (OK_sL10Name y20) (by kernel_rfl) (by kernel_rfl) (fun _ => rfl) ?_
   clear h; intro y21 h
   refine dbsl_step (l := ([y17, y21] : List GToken)) (f := cGToken) (g := cGToken) (by kernel_rfl) (fun _ => rfl) ?_
   refine dapp_step (t := 3) (l := x3_12) (m := ([y17, y21] : List GToken)) (f := cGToken) (S' := fun y => ⟨[(73, (.osl 73 53 3 (y.map cGToken))), (72, (.osl 72 53 3 (([y17, y21] : List GToken).map cGToken))), (71, (vGToken y21)), (70, (vS y20)), (69, (vI y19.type)), (68, (.rp [(.i .i64 y19.type)])), (67, (.rp (cGCol y19))), (66, (vI x5)), (65, (.d (.sl 2 (y18.cols.map cGCol)))), (64, (.rp [(.sl 2 (y18.cols.map cGCol))])), (63, (.rp (cGTable y18))), (62, (vI x4)), (61, (.d (.sl 2 (p0.tables.map cGTable)))), (60, (.ptr 1 0)), (59, (vGToken y17)), (58, (vS y16.name)), (57, (.rp [(.s (bs y16.name)), (.i .i64 y16.type)])), (56, (.rp (cGCol y16))), (55, (vI x5)), (54, (.d (.sl 2 (y15.cols.map cGCol)))), (53, (.rp [(.sl 2 (y15.cols.map cGCol))])), (52, (.rp (cGTable y15))), (51, (vI x4)), (50, (.d (.sl 2 (p0.tables.map cGTable)))), (49, (.ptr 1 0)), (48, (.d (.sl 3 (x3_12.map cGToken)))), (1, (.ptr 1 0)), (3, (.d (.sl 3 (x3_12.map cGToken)))), (4, (vI x4)), (5, (vI x5))], [(1, bGCatalog p0)]⟩) [3, 48] [] h (by kernel_rfl) (by kernel_rfl) (by kernel_rfl) (fun y => by kernel_rfl) ?_
   clear h; intro y22 h
   refine dasg_step (t := 73) (e := 53) (sz := 3) (l := y22.map cGToken) [3, 48, 73] [] (by kernel_rfl) (by kernel_rfl) (s' := ⟨[(3, (.osl 3 53 3 (y22.map cGToken))), (73, (.d (.sl 3 (y22.map cGToken)))), (72, (.osl 72 53 3 (([y17, y21] : List GToken).map cGToken))), (71, (vGToken y21)), (70, (vS y20)), (69, (vI y19.type)), (68, (.rp [(.i .i64 y19.type)])), (67, (.rp (cGCol y19))), (66, (vI x5)), (65, (.d (.sl 2 (y18.cols.map cGCol)))), (64, (.rp [(.sl 2 (y18.cols.map cGCol))])), (63, (.rp (cGTable y18))), (62, (vI x4)), (61, (.d (.sl 2 (p0.tables.map cGTable)))), (60, (.ptr 1 0)), (59, (vGToken y17)), (58, (vS y16.name)), (57, (.rp [(.s (bs y16.name)), (.i .i64 y16.type)])), (56, (.rp (cGCol y16))), (55, (vI x5)), (54, (.d (.sl 2 (y15.cols.map cGCol)))), (53, (.rp [(.sl 2 (y15.cols.map cGCol))])), (52, (.rp (cGTable y15))), (51, (vI x4)), (50, (.d (.sl 2 (p0.tables.map cGTable)))), (49, (.ptr 1 0)), (48, (.d (.sl 3 (x3_12.map cGToken)))), (1, (.ptr 1 0)), (3, (.d (.sl 3 (x3_12.map cGToken)))), (4, (vI x4)), (5, (vI x5))], [(1, bGCatalog p0)]⟩) (by kernel_rfl) ?_
   refine dnil_in (by kernel_rfl) (by kernel_rfl) (bn (xi (oi ?_)))
   let a28 : St := ⟨[(5, (vI (IntKind.wrap .i64 (x5 + 1)))), (41, (vI (IntKind.wrap .i64 (x5 + 1)))), (40, (vI x5)), (3, (.osl 3 53 3 (y22.map cGToken))), (73, (.d (.sl 3 (y22.map cGToken)))), (72, (.osl 72 53 3 (([y17, y21] : List GToken).map cGToken))), (71, (vGToken y21)), (70, (vS y20)), (69, (vI y19.type)), (68, (.rp [(.i .i64 y19.type)])), (67, (.rp (cGCol y19))), (66, (vI x5)), (65, (.d (.sl 2 (y18.cols.map cGCol)))), (64, (.rp [(.sl 2 (y18.cols.map cGCol))])), (63, (.rp (cGTable y18))), (62, (vI x4)), (61, (.d (.sl 2 (p0.tables.map cGTable)))), (60, (.ptr 1 0)), (59, (vGToken y17)), (58, (vS y16.name)), (57, (.rp [(.s (bs y16.name)), (.i .i64 y16.type)])), (56, (.rp (cGCol y16))), (55, (vI x5)), (54, (.d (.sl 2 (y15.cols.map cGCol)))), (53, (.rp [(.sl 2 (y15.cols.map cGCol))])), (52, (.rp (cGTable y15))), (51, (vI x4)), (50, (.d (.sl 2 (p0.tables.map cGTable)))), (49, (.ptr 1 0)), (48, (.d (.sl 3 (x3_12.map cGToken)))), (1, (.ptr 1 0)), (3, (.d (.sl 3 (x3_12.map cGToken)))), (4, (vI x4)), (5, (vI x5))], [(1, bGCatalog p0)]⟩
   exact st 3 a28 (ni (loop_back (s' := stsL16Tokens_L2 x4 p0 y22 (IntKind.wrap .i64 (x5 + 1))) (wr [(3, .old 3)] (es (eo 3 (es (es er_nil)))) (bs_ br_nil)) (OK_sL16Tokens_L2 x4 y22 (IntKind.wrap .i64 (x5 + 1)) _ h)))
 · intro F_sL16Tokens_J3 F_sL16Tokens_L0 OK_sL16Tokens_J3 OK_sL16Tokens_L0 x4 x3_8 x5 r h
   delta acsL16Tokens_L2
   refine loop_unroll (si (so ?_))
   let a13 : St := (stsL16Tokens_L2 x4 p0 x3_8 x5).p [(34, (vI x4)), (33, (.d (.sl 2 (p0.tables.map cGTable)))), (32, (.ptr 1 0)), (31, (vI x5))]
   refine st 4 a13 (vs (fun (y : GTable) => (.rp (cGTable y))) h (fun y hy => via (l := p0.tables) (f := cGTable) (g := cGTable) (k := .i64) hy (fun _ => rfl)) fun y9 h => ?_)
   let a14 : St := a13.p [(37, (.d (.sl 2 (y9.cols.map cGCol)))), (36, (.rp [(.sl 2 (y9.cols.map cGCol))])), (35, (.rp (cGTable y9)))]
   refine st 2 a14 (ps (vI (ln y9.cols)) (vln (sz := 2) (l := y9.cols) (f := cGCol)) ?_)
   let a15 : St := a14.p [(39, (vB (decide (x5 < (ln y9.cols))))), (38, (vI (ln y9.cols)))]
   refine st 1 a15 (nx ?_)
   refine cd h (fun h => ?_) fun h => ?_
   refine ki (xi (si (bi (si (so ?_)))))
   let a16 : St := a15.p [(43, (vB (decide (0 < x5)))), (42, (vI x5))]
   refine st 2 a16 (nx ?_)
   refine cd h (fun h => ?_) fun h => ?_
   refine oi ?_
   let a17 : St := a16.p [(44, (.osl 3 53 3 (x3_8.map cGToken)))]
   refine st 1 a17 (cs h (OK_sL10Sign [44]) fun y10 h => (bsl_step (l := ([y10] : List GToken)) (f := cGToken) (g := cGToken) (by kernel_rfl) (fun _ => rfl) (by kernel_rfl) ?_))
   refine app_step (t := 3) (l := x3_8) (m := ([y10] : List GToken)) (f := cGToken) (S' := fun y => ⟨[(47, (.osl 47 53 3 (y.map cGToken))), (46, (.osl 46 53 3 (([y10] : List GToken).map cGToken))), (45, (vGToken y10)), (44, (.d (.sl 3 (x3_8.map cGToken)))), (43, (vB (decide (0 < x5)))), (42, (vI x5)), (39, (vB (decide (x5 < (ln y9.cols))))), (38, (vI (ln y9.cols))), (37, (.d (.sl 2 (y9.cols.map cGCol)))), (36, (.rp [(.sl 2 (y9.cols.map cGCol))])), (35, (.rp (cGTable y9))), (34, (vI x4)), (33, (.d (.sl 2 (p0.tables.map cGTable)))), (32, (.ptr 1 0)), (31, (vI x5)), (1, (.ptr 1 0)), (3, (.d (.sl 3 (x3_8.map cGToken)))), (4, (vI x4)), (5, (vI x5))], [(1, bGCatalog p0)]⟩) h (by kernel_rfl) (by kernel_rfl) (by kernel_rfl) (by kernel_rfl) (fun y => by kernel_rfl) ?_
   clear h; intro y11 h
   let a18 : St := ⟨[(3, (.osl 3 53 3 (y11.map cGToken))), (47, (.d (.sl 3 (y11.map cGToken)))), (46, (.osl 46 53 3 (([y10] : List GToken).map cGToken))), (45, (vGToken y10)), (44, (.d (.sl 3 (x3_8.map cGToken)))), (43, (vB (decide (0 < x5)))), (42, (vI x5)), (39, (vB (decide (x5 < (ln y9.cols))))), (38, (vI (ln y9.cols))), (37, (.d (.sl 2 (y9.cols.map cGCol)))), (36, (.rp [(.sl 2 (y9.cols.map cGCol))])), (35, (.rp (cGTable y9))), (34, (vI x4)), (33, (.d (.sl 2 (p0.tables.map cGTable)))), (32, (.ptr 1 0)), (31, (vI x5)), (1, (.ptr 1 0)), (3, (.d (.sl 3 (x3_8.map cGToken)))), (4, (vI x4)), (5, (vI x5))], [(1, bGCatalog p0)]⟩
   exact st 1 a18 (ni (next_step (s' := stsL16Tokens_J3 x4 x5 p0 y11) (wr [(3, .old 3)] (es (eo 3 (es (es er_nil)))) (bs_ br_nil)) (OK_sL16Tokens_J3 x4 x5 y11 _ h)))
   exact ki (next_step (s' := stsL16Tokens_J3 x4 x5 p0 x3_8) (wr [(3, .old 3)] (es (eo 3 (es (es er_nil)))) (bs_ br_nil)) (OK_sL16Tokens_J3 x4 x5 x3_8 _ h))
   refine ei (te (te (bh (xi (oi ?_)))))
   let a19 : St := a15.p [(74, (.osl 3 53 3 (x3_8.map cGToken)))]
   refine st 1 a19 (cs h (OK_sL10Sign [41]) fun y13 h => (bsl_step (l := ([y13] : List GToken)) (f := cGToken) (g := cGToken) (by kernel_rfl) (fun _ => rfl) (by kernel_rfl) ?_))
   refine app_step (t := 3) (l := x3_8) (m := ([y13] : List GToken)) (f := cGToken) (S' := fun y => ⟨[(77, (.osl 77 53 3 (y.map cGToken))), (76, (.osl 76 53 3 (([y13] : List GToken).map cGToken))), (75, (vGToken y13)), (74, (.d (.sl 3 (x3_8.map cGToken)))), (39, (vB (decide (x5 < (ln y9.cols))))), (38, (vI (ln y9.cols))), (37, (.d (.sl 2 (y9.cols.map cGCol)))), (36, (.rp [(.sl 2 (y9.cols.map cGCol))])), (35, (.rp (cGTable y9))), (34, (vI x4)), (33, (.d (.sl 2 (p0.tables.map cGTable)))), (32, (.ptr 1 0)), (31, (vI x5)), (1, (.ptr 1 0)), (3, (.d (.sl 3 (x3_8.map cGToken)))), (4, (vI x4)), (5, (vI x5))], [(1, bGCatalog p0)]⟩) h (by kernel_rfl) (by kernel_rfl) (by kernel_rfl) (by kernel_rfl) (fun y => by kernel_rfl) ?_
   clear h; intro y14 h
   let a20 : St := ⟨[(3, (.osl 3 53 3 (y14.map cGToken))), (77, (.d (.sl 3 (y14.map cGToken)))), (76, (.osl 76 53 3 (([y13] : List GToken).map cGToken))), (75, (vGToken y13)), (74, (.d (.sl 3 (x3_8.map cGToken)))), (39, (vB (decide (x5 < (ln y9.cols))))), (38, (vI (ln y9.cols))), (37, (.d (.sl 2 (y9.cols.map cGCol)))), (36, (.rp [(.sl 2 (y9.cols.map cGCol))])), (35, (.rp (cGTable y9))), (34, (vI x4)), (33, (.d (.sl 2 (p0.tables.map cGTable)))), (32, (.ptr 1 0)), (31, (vI x5)), (1, (.ptr 1 0)), (3, (.d (.sl 3 (x3_8.map cGToken)))), (4, (vI x4)), (5, (vI x5))], [(1, bGCatalog p0)]⟩
   refine st 1 a20 (ni (bn (xi (oi ?_))))
   let a21 : St := a20.p [(4, (vI (IntKind.wrap .i64 (x4 + 1)))), (13, (vI (IntKind.wrap .i64 (x4 + 1)))), (12, (vI x4))]
   exact st 3 a21 (ni (loop_back (s' := stsL16Tokens_L0 p0 y14 (IntKind.wrap .i64 (x4 + 1))) (wr [(3, .old 3)] (es (eo 3 (es er_nil))) (bs_ br_nil)) (OK_sL16Tokens_L0 y14 (IntKind.wrap .i64 (x4 + 1)) _ h)))
 · intro F_sL16Tokens_J1 OK_sL16Tokens_J1 x3 x4 r h
   delta acsL16Tokens_L0
   refine loop_unroll (si (so ?_))
   let a3 : St := (stsL16Tokens_L0 p0 x3 x4).p [(9, (.d (.sl 2 (p0.tables.map cGTable)))), (8, (.ptr 1 0)), (7, (vI x4))]
   refine st 3 a3 (ps (vI (ln p0.tables)) (vln (sz := 2) (l := p0.tables) (f := cGTable)) ?_)
   let a4 : St := a3.p [(11, (vB (decide (x4 < (ln p0.tables))))), (10, (vI (ln p0.tables)))]
   refine st 1 a4 (nx ?_)
   refine cd h (fun h => ?_) fun h => ?_
   refine ki (xi (si (bi (si (so ?_)))))
   let a5 : St := a4.p [(15, (vB (decide (0 < x4)))), (14, (vI x4))]
   refine st 2 a5 (nx ?_)
   refine cd h (fun h => ?_) fun h => ?_
   refine oi ?_
   let a6 : St := a5.p [(16, (.osl 3 53 3 (x3.map cGToken)))]
   refine st 1 a6 (cs h (OK_sL10Sign [44]) fun y1 h => (bsl_step (l := ([y1] : List GToken)) (f := cGToken) (g := cGToken) (by kernel_rfl) (fun _ => rfl) (by kernel_rfl) ?_))
   refine app_step (t := 3) (l := x3) (m := ([y1] : List GToken)) (f := cGToken) (S' := fun y => ⟨[(19, (.osl 19 53 3 (y.map cGToken))), (18, (.osl 18 53 3 (([y1] : List GToken).map cGToken))), (17, (vGToken y1)), (16, (.d (.sl 3 (x3.map cGToken)))), (15, (vB (decide (0 < x4)))), (14, (vI x4)), (11, (vB (decide (x4 < (ln p0.tables))))), (10, (vI (ln p0.tables))), (9, (.d (.sl 2 (p0.tables.map cGTable)))), (8, (.ptr 1 0)), (7, (vI x4)), (1, (.ptr 1 0)), (3, (.d (.sl 3 (x3.map cGToken)))), (4, (vI x4))], [(1, bGCatalog p0)]⟩) h (by kernel_rfl) (by kernel_rfl) (by kernel_rfl) (by kernel_rfl) (fun y => by kernel_rfl) ?_
   clear h; intro y2 h
   let a7 : St := ⟨[(3, (.osl 3 53 3 (y2.map cGToken))), (19, (.d (.sl 3 (y2.map cGToken)))), (18, (.osl 18 53 3 (([y1] : List GToken).map cGToken))), (17, (vGToken y1)), (16, (.d (.sl 3 (x3.map cGToken)))), (15, (vB (decide (0 < x4)))), (14, (vI x4)), (11, (vB (decide (x4 < (ln p0.tables))))), (10, (vI (ln p0.tables))), (9, (.d (.sl 2 (p0.tables.map cGTable)))), (8, (.ptr 1 0)), (7, (vI x4)), (1, (.ptr 1 0)), (3, (.d (.sl 3 (x3.map cGToken)))), (4, (vI x4))], [(1, bGCatalog p0)]⟩
   exact st 1 a7 (ni (next_step (s' := stsL16Tokens_J1 x4 p0 y2) (wr [(3, .old 3)] (es (eo 3 (es er_nil))) (bs_ br_nil)) (OK_sL16Tokens_J1 x4 y2 _ h)))
   exact ki (next_step (s' := stsL16Tokens_J1 x4 p0 x3) (wr [(3, .old 3)] (es (eo 3 (es er_nil))) (bs_ br_nil)) (OK_sL16Tokens_J1 x4 x3 _ h))
   refine ei (te (te (bh (xi (so ?_)))))
   let a8 : St := ⟨[(2, (.osl 2 53 3 (x3.map cGToken))), (78, (.d (.sl 3 (x3.map cGToken)))), (11, (vB (decide (x4 < (ln p0.tables))))), (10, (vI (ln p0.tables))), (9, (.d (.sl 2 (p0.tables.map cGTable)))), (8, (.ptr 1 0)), (7, (vI x4)), (1, (.ptr 1 0)), (3, (.d (.sl 3 (x3.map cGToken)))), (4, (vI x4))], [(1, bGCatalog p0)]⟩
   refine st 2 a8 (nx (ret_wk (s' := ⟨[(2, (.osl 2000000 53 3 (x3.map cGToken)))], []⟩) (wr [(2000000, .old 2)] (eo 2 er_nil) br_nil) ?_))
   injection h with h; subst h
   exact ret1_step (v := (.osl 2000000 53 3 (x3.map cGToken))) (by kernel_rfl) (by kernel_rfl) ⟨by kernel_rfl, trivial⟩
 · intro F_sL16Tokens_L2 OK_sL16Tokens_L2 x4 x3_3 r h
   delta acsL16Tokens_J1
   refine so ?_
   let a9 : St := (stsL16Tokens_J1 x4 p0 x3_3).p [(23, (vI x4)), (22, (.d (.sl 2 (p0.tables.map cGTable)))), (21, (.ptr 1 0)), (20, (.osl 3 53 3 (x3_3.map cGToken)))]
   refine st 4 a9 (vs (fun (y : GTable) => (.rp (cGTable y))) h (fun y hy => via (l := p0.tables) (f := cGTable) (g := cGTable) (k := .i64) hy (fun _ => rfl)) fun y4 h => ?_)
   let a10 : St := a9.p [(26, (vS y4.name)), (25, (.rp [(.s (bs y4.name)), (.sl 2 (y4.cols.map cGCol))])), (24, (.rp (cGTable y4)))]
   refine st 2 a10 (cs h (OK_sL10Name y4.name) fun y5 h => (cs h (OK_sL10Sign [40]) fun y6 h => (bsl_step (l := ([y5, y6] : List GToken)) (f := cGToken) (g := cGToken) (by kernel_rfl) (fun _ => rfl) (by kernel_rfl) ?_)))
   refine app_step (t := 3) (l := x3_3) (m := ([y5, y6] : List GToken)) (f := cGToken) (S' := fun y => ⟨[(30, (.osl 30 53 3 (y.map cGToken))), (29, (.osl 29 53 3 (([y5, y6] : List GToken).map cGToken))), (28, (vGToken y6)), (27, (vGToken y5)), (26, (vS y4.name)), (25, (.rp [(.s (bs y4.name)), (.sl 2 (y4.cols.map cGCol))])), (24, (.rp (cGTable y4))), (23, (vI x4)), (22, (.d (.sl 2 (p0.tables.map cGTable)))), (21, (.ptr 1 0)), (20, (.d (.sl 3 (x3_3.map cGToken)))), (1, (.ptr 1 0)), (3, (.d (.sl 3 (x3_3.map cGToken)))), (4, (vI x4))], [(1, bGCatalog p0)]⟩) h (by kernel_rfl) (by kernel_rfl) (by kernel_rfl) (by kernel_rfl) (fun y => by kernel_rfl) ?_
   clear h; intro y7 h
   let a11 : St := ⟨[(3, (.osl 3 53 3 (y7.map cGToken))), (30, (.d (.sl 3 (y7.map cGToken)))), (29, (.osl 29 53 3 (([y5, y6] : List GToken).map cGToken))), (28, (vGToken y6)), (27, (vGToken y5)), (26, (vS y4.name)), (25, (.rp [(.s (bs y4.name)), (.sl 2 (y4.cols.map cGCol))])), (24, (.rp (cGTable y4))), (23, (vI x4)), (22, (.d (.sl 2 (p0.tables.map cGTable)))), (21, (.ptr 1 0)), (20, (.d (.sl 3 (x3_3.map cGToken)))), (1, (.ptr 1 0)), (3, (.d (.sl 3 (x3_3.map cGToken)))), (4, (vI x4))], [(1, bGCatalog p0)]⟩
   refine st 1 a11 (nx (si (so ?_)))
   let a12 : St := a11.p [(5, (vI 0))]
   exact st 1 a12 (nx (bi (loop_go (s' := stsL16Tokens_L2 x4 p0 y7 0) (wr [(3, .old 3)] (es (eo 3 (es (es er_nil)))) (bs_ br_nil)) (OK_sL16Tokens_L2 x4 y7 0 _ h))))
theorem OK_sL16Tokens_J3 (x4 : Int) (x5 : Int) (p0 : GCatalog) (x3_12 : (List GToken)) (r : (List GToken)) (h : sL16Tokens_J3 x4 x5 p0 x3_12 = some r) : avc Tryz.prog acsL16Tokens_J3 (qsL16Tokens_9 r) (stsL16Tokens_J3 x4 x5 p0 x3_12) := (OKs_sL16Tokens_J3 p0).1 x4 x5 x3_12 r h
theorem OK_sL16Tokens_L2 (x4 : Int) (p0 : GCatalog) (x3_8 : (List GToken)) (x5 : Int) (r : (List GToken)) (h : sL16Tokens_L2 x4 p0 x3_8 x5 = some r) : avc Tryz.prog acsL16Tokens_L2 (qsL16Tokens_6 r) (stsL16Tokens_L2 x4 p0 x3_8 x5) := (OKs_sL16Tokens_J3 p0).2.1 x4 x3_8 x5 r h
theorem OK_sL16Tokens_L0 (p0 : GCatalog) (x3 : (List GToken)) (x4 : Int) (r : (List GToken)) (h : sL16Tokens_L0 p0 x3 x4 = some r) : avc Tryz.prog acsL16Tokens_L0 (qsL16Tokens_1 r) (stsL16Tokens_L0 p0 x3 x4) := (OKs_sL16Tokens_J3 p0).2.2.1 x3 x4 r h
theorem OK_sL16Tokens_J1 (x4 : Int) (p0 : GCatalog) (x3_3 : (List GToken)) (r : (List GToken)) (h : sL16Tokens_J1 x4 p0 x3_3 = some r) : avc Tryz.prog acsL16Tokens_J1 (qsL16Tokens_4 r) (stsL16Tokens_J1 x4 p0 x3_3) := (OKs_sL16Tokens_J3 p0).2.2.2 x4 x3_3 r h
theorem OK_sL16Tokens (p0 : GCatalog) : FOkB Tryz.prog 42 [(vGCatalog p0)] [] (fun (y : (List GToken)) => (.osl 2000000 53 3 (y.map cGToken))) (fun (y : (List GToken)) => []) (sL16Tokens p0) := by
 intro r h
 rw [sL16Tokens] at h
 refine aof trsL16Tokens ?_
 show avc Tryz.prog acsL16Tokens (qsL16Tokens _) ⟨[(0, (vGCatalog p0))], []⟩
 delta acsL16Tokens
 refine so ?_
 let a0 : St := ⟨[(2, (.nil 3)), (1, (.ptr 1 0)), (0, (vGCatalog p0))], [(1, bGCatalog p0)]⟩
 refine st 2 a0 (nx (so (bsl_step (l := ([] : List GToken)) (f := cGToken) (g := cGToken) (by kernel_rfl) (fun _ => rfl) (by kernel_rfl) ?_)))
 let a1 : St := a0.p [(3, (.osl 3 53 3 (([] : List GToken).map cGToken))), (6, (.d (.sl 3 (([] : List GToken).map cGToken))))]
 refine st 1 a1 (nx (si (so ?_)))
 let a2 : St := a1.p [(4, (vI 0))]
 exact st 1 a2 (nx (bi (loop_go (s' := stsL16Tokens_L0 p0 ([] : List GToken) 0) (wr [(3, .old 3)] (es (eo 3 (es er_nil))) (bs_ br_nil)) (OK_sL16Tokens_L0 p0 ([] : List GToken) 0 _ h))))
end Go.Proofs.YtechmmnknmdacaaGreatDoor
