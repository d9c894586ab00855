/- That the code computes these functions (printed by a program). -/
import Derived.Lib.Builder
import Derived.Lib.UnsafeStr
import Derived.Test.YtgmnnlkhmpceiabDoorAbB
import Derived.Test.YtgmnnlkhmpceiabDoorAbP
import Derived.Test.YtgmnnlkhmpceiabDoorAbQ
import Derived.KernelRfl
import Derived.Test.YtgmnnlkhmpceiabDoorAbG2
import Derived.Test.YtgmnnlkhmpceiabDoorAbC3
import Derived.Test.YtgmnnlkhmpceiabDoorAbT7
import Derived.Test.YtgmnnlkhmpceiabDoorFExactRowsText
import Derived.Test.YtgmnnlkhmpceiabDoorProg
namespace Go.Proofs.YtgmnnlkhmpceiabDoor
open Go Go.RowKit Go.Ab
def cI (n : Int) : List D := [.i .i64 n]
def cU8 (n : Int) : List D := [.i .u8 n]
def cU64 (n : Int) : List D := [.i .u64 n]
def cI32 (n : Int) : List D := [.i .i32 n]
def cU32 (n : Int) : List D := [.i .u32 n]
def cB (b : Bool) : List D := [.b b]
def cStr (s : List UInt8) : List D := [.s (bs s)]
def cSl {α : Type} (sz : Nat) (f : α → List D) (l : List α) : List D := [.sl sz (l.map f)]
def cGValue (x : GValue) : List D := [(.i .i64 x.kind), (.i .i64 x.num), (.s (bs x.text))]
def vGValue (x : GValue) : V := .agg (cGValue x)
def bGValue (x : GValue) : List V := (cGValue x).map V.d
def acwFnExactRowsText : AC := (.seq (.ops [.asg 2 (kB false)]) (.seq (.ops [.asg 3 (kI 1048576)]) (.seq (.ops [.mv 7 0, .mv 8 3, .call (some 9) 4 [7, 8], .asg 3 9]) (.seq (.seq (.ops [.mv 10 3, .bin 11 .lss 10 (kI 0)]) (.cond 11 (.seq (.ops [.asg 2 (kB true)]) .ret) .skip)) (.seq (.ops [.mv 12 0, .call (some 13) 6 [12], .call (some 14) 5 [13], .asg 4 14]) (.seq (.ops [.mv 15 0, .call (some 16) 6 [15], .asg 5 16]) (.seq (.ops [.mv 17 5, .call (some 18) 7 [17], .asg 6 18]) (.seq (.seq (.ops [.mv 19 6, .mv 20 4, .bin 21 .neq 19 20]) (.cond 21 (.seq (.ops [.asg 2 (kB false)]) .ret) .skip)) (.seq (.seq (.ops [.mv 22 5, .mv 23 0, .call (some 24) 6 [23], .call (some 25) 8 [22, 24], .not 26 25]) (.cond 26 (.seq (.ops [.asg 2 (kB false)]) .ret) .skip)) (.seq (.ops [.asg 2 (kB true)]) .ret))))))))))
theorem trwFnExactRowsText : trFn Tryd.prog 3 = some (acwFnExactRowsText, [.mv 0 2], 27) := by kernel_rfl
def qwFnExactRowsText (r : Bool) : Exit → St → Prop := retQ [.mv 0 2] fun x _ => x = (fun y => (vB y)) r
def acwToValueS_L0 : AC := (.loop (.seq (.seq (.ops [.mv 8 4, .mv 9 0, .len 10 9, .bin 11 .lss 8 10]) (.cond 11 .skip (.exit 0))) (.seq (.block 1 (.ops [.mv 14 3, .mv 15 4, .mv 16 0, .mv 17 4, .ia 18 3 16 17, .ld 19 3 true 18, .call (some 20) 20 [19], .ia 21 3 14 15, .st 3 21 20])) (.ops [.mv 12 4, .bin 13 .add 12 (kI 1), .asg 4 13]))))
def acwToValueS : AC := (.seq (.ops [.asg 2 (.c (.nil 3))]) (.seq (.ops [.mv 5 0, .len 6 5, .mks 7 35 3 32 [(.i .i64 0), (.i .i64 0), (.s (bs []))] 6 6, .asg 3 7]) (.seq (.seq (.ops [.asg 4 (kI 0)]) (.block 0 acwToValueS_L0)) (.seq (.ops [.mv 22 3, .asg 2 22]) .ret))))
theorem trwToValueS : trFn Tryd.prog 11 = some (acwToValueS, [.mv 0 2], 23) := by kernel_rfl
def qwToValueS (r : (List GValue)) : Exit → St → Prop := retQ [.mv 0 2] fun x _ => x = (fun y => (.d (.sl 3 (y.map cGValue)))) r
def qwToValueS_0 (r : (List GValue)) : Exit → St → Prop := (thenK (wkK (avc Tryd.prog (.seq (.ops [.mv 22 3, .asg 2 22]) .ret) (qwToValueS r))) (qwToValueS r))
def qwToValueS_1 (r : (List GValue)) : Exit → St → Prop := (blockK 0 (qwToValueS_0 r))
def stwToValueS_L0 (p0 : (List GValue)) (x4 : Int) (b7_0 : (List GValue)) : St := ⟨[(0, (.d (.sl 3 (p0.map cGValue)))), (3, (.msl 7 3 0 b7_0.length b7_0.length)), (4, (vI x4))], [(7, rowsV (b7_0.map cGValue))]⟩
def acwToValue : AC := (.seq (.ops [.box 1 47 0, .alc 2 [(.d (.i .i64 0)), (.d (.i .i64 0)), (.d (.s (bs [])))]]) (.seq (.ops [.alc 3 [(.d (.i .i64 0)), (.d (.i .i64 0)), (.d (.s (bs [])))]]) (.seq (.ops [.fa 4 0 1, .ld 5 1 false 4, .fa 6 0 3, .st 1 6 5]) (.seq (.ops [.fa 7 1 1, .ld 8 1 false 7, .fa 9 1 3, .st 1 9 8]) (.seq (.ops [.fa 10 2 1, .ld 11 1 false 10, .fa 12 2 3, .st 1 12 11]) (.seq (.ops [.ld 13 3 true 3, .st 3 2 13]) .ret))))))
theorem trwToValue : trFn Tryd.prog 20 = some (acwToValue, [.ld 0 3 true 2], 14) := by kernel_rfl
def qwToValue (r : GValue) : Exit → St → Prop := retQ [.ld 0 3 true 2] fun x _ => x = (fun y => (vGValue y)) r
def acsRowsText_J2 : AC := (.ops [.mv 27 3, .mv 28 0, .mv 29 4, .ia 30 1 28 29, .ld 31 1 false 30, .mv 32 5, .ia 33 3 31 32, .ld 34 3 true 33, .call (some 35) 10 [34], .app 36 5 1 1 27 35, .asg 3 36])
def acsRowsText_L1 : AC := (.loop (.seq (.seq (.ops [.mv 13 5, .mv 14 0, .mv 15 4, .ia 16 1 14 15, .ld 17 1 false 16, .len 18 17, .bin 19 .lss 13 18]) (.cond 19 .skip (.exit 2))) (.seq (.block 3 (.seq (.seq (.ops [.mv 22 5, .bin 23 .gtr 22 (kI 0)]) (.cond 23 (.ops [.mv 24 3, .bsl 25 5 1 [(.c (.d (.i .u8 124)))], .app 26 5 1 1 24 25, .asg 3 26]) .skip)) acsRowsText_J2)) (.ops [.mv 20 5, .bin 21 .add 20 (kI 1), .asg 5 21]))))
def acsRowsText_L0 : AC := (.loop (.seq (.seq (.ops [.mv 7 4, .mv 8 0, .len 9 8, .bin 10 .lss 7 9]) (.cond 10 .skip (.exit 0))) (.seq (.block 1 (.seq (.seq (.ops [.asg 5 (kI 0)]) (.block 2 acsRowsText_L1)) (.ops [.mv 37 3, .bsl 38 5 1 [(.c (.d (.i .u8 10)))], .app 39 5 1 1 37 38, .asg 3 39]))) (.ops [.mv 11 4, .bin 12 .add 11 (kI 1), .asg 4 12]))))
def acsRowsText : AC := (.seq (.ops [.asg 2 (.c (.d (.s (bs []))))]) (.seq (.ops [.bsl 6 5 1 [], .asg 3 6]) (.seq (.seq (.ops [.asg 4 (kI 0)]) (.block 0 acsRowsText_L0)) (.seq (.ops [.mv 40 3, .cbs 41 40, .asg 2 41]) .ret))))
theorem trsRowsText : trFn Tryd.prog 5 = some (acsRowsText, [.mv 0 2], 42) := by kernel_rfl
def qsRowsText (r : (List UInt8)) : Exit → St → Prop := retQ [.mv 0 2] fun x _ => x = (fun y => (vS y)) r
def qsRowsText_0 (r : (List UInt8)) : Exit → St → Prop := (thenK (wkK (avc Tryd.prog (.seq (.ops [.mv 40 3, .cbs 41 40, .asg 2 41]) .ret) (qsRowsText r))) (qsRowsText r))
def qsRowsText_1 (r : (List UInt8)) : Exit → St → Prop := (blockK 0 (qsRowsText_0 r))
def qsRowsText_2 (r : (List UInt8)) : Exit → St → Prop := (thenK (avc Tryd.prog acsRowsText_L0 (qsRowsText_1 r)) (qsRowsText_1 r))
def qsRowsText_3 (r : (List UInt8)) : Exit → St → Prop := (thenK (wkK (avc Tryd.prog (.ops [.mv 11 4, .bin 12 .add 11 (.c (.d (.i .i64 1))), .asg 4 12]) (qsRowsText_2 r))) (qsRowsText_2 r))
def qsRowsText_4 (r : (List UInt8)) : Exit → St → Prop := (blockK 1 (qsRowsText_3 r))
def qsRowsText_5 (r : (List UInt8)) : Exit → St → Prop := (thenK (wkK (avc Tryd.prog (.ops [.mv 37 3, .bsl 38 5 1 [(.c (.d (.i .u8 10)))], .app 39 5 1 1 37 38, .asg 3 39]) (qsRowsText_4 r))) (qsRowsText_4 r))
def qsRowsText_6 (r : (List UInt8)) : Exit → St → Prop := (blockK 2 (qsRowsText_5 r))
def qsRowsText_7 (r : (List UInt8)) : Exit → St → Prop := (thenK (avc Tryd.prog acsRowsText_L1 (qsRowsText_6 r)) (qsRowsText_6 r))
def qsRowsText_8 (r : (List UInt8)) : Exit → St → Prop := (thenK (wkK (avc Tryd.prog (.ops [.mv 20 5, .bin 21 .add 20 (.c (.d (.i .i64 1))), .asg 5 21]) (qsRowsText_7 r))) (qsRowsText_7 r))
def qsRowsText_9 (r : (List UInt8)) : Exit → St → Prop := (blockK 3 (qsRowsText_8 r))
def stsRowsText_L0 (p0 : (List (List GValue))) (x3 : (List Int)) (x4 : Int) : St := ⟨[(0, (.d (.sl 1 (p0.map (cSl 3 cGValue))))), (3, (.osl 3 5 1 (x3.map cU8))), (4, (vI x4))], []⟩
def stsRowsText_L1 (p0 : (List (List GValue))) (x4 : Int) (x3_1 : (List Int)) (x5 : Int) : St := ⟨[(0, (.d (.sl 1 (p0.map (cSl 3 cGValue))))), (3, (.osl 3 5 1 (x3_1.map cU8))), (4, (vI x4)), (5, (vI x5))], []⟩
def stsRowsText_J2 (p0 : (List (List GValue))) (x4 : Int) (x5 : Int) (x3_5 : (List Int)) : St := ⟨[(0, (.d (.sl 1 (p0.map (cSl 3 cGValue))))), (3, (.osl 3 5 1 (x3_5.map cU8))), (4, (vI x4)), (5, (vI x5))], []⟩
def acsValueText : AC := (.seq (.ops [.box 1 35 0, .asg 2 (.c (.d (.s (bs []))))]) (.seq (.seq (.ops [.ld 3 3 true 1, .call (some 4) 17 [3], .not 5 4]) (.cond 5 (.seq (.ops [.asg 2 (.c (.d (.s (bs [63]))))]) .ret) .skip)) (.seq (.seq (.ops [.fa 6 0 1, .ld 7 1 false 6]) (.block 0 (.seq (.ops [.bin 9 .eql 7 (kI 1), .asg 8 9]) (.cond 8 (.seq (.ops [.fa 10 1 1, .ld 11 1 false 10, .call (some 12) 18 [11], .asg 2 12]) .ret) (.seq (.ops [.bin 14 .eql 7 (kI 2), .asg 13 14]) (.cond 13 (.seq (.ops [.fa 15 2 1, .ld 16 1 false 15, .call (some 17) 19 [16], .asg 2 17]) .ret) (.seq (.ops [.bin 19 .eql 7 (kI 3), .asg 18 19]) (.cond 18 (.seq (.seq (.ops [.fa 20 1 1, .ld 21 1 false 20, .bin 22 .eql 21 (kI 1)]) (.cond 22 (.seq (.ops [.asg 2 (.c (.d (.s (bs [84, 82, 85, 69]))))]) .ret) .skip)) (.seq (.ops [.asg 2 (.c (.d (.s (bs [70, 65, 76, 83, 69]))))]) .ret)) .skip)))))))) (.seq (.ops [.asg 2 (.c (.d (.s (bs [78, 85, 76, 76]))))]) .ret))))
theorem trsValueText : trFn Tryd.prog 10 = some (acsValueText, [.mv 0 2], 23) := by kernel_rfl
def qsValueText (r : (List UInt8)) : Exit → St → Prop := retQ [.mv 0 2] fun x _ => x = (fun y => (vS y)) r
def acsQuoteText : AC := (.seq (.ops [.asg 2 (.c (.d (.s (bs []))))]) (.seq (.ops [.mv 3 0, .call (some 4) 27 [3, (.c (.d (.i .u8 39)))], .asg 2 4]) .ret))
theorem trsQuoteText : trFn Tryd.prog 19 = some (acsQuoteText, [.mv 0 2], 5) := by kernel_rfl
def qsQuoteText (r : (List UInt8)) : Exit → St → Prop := retQ [.mv 0 2] fun x _ => x = (fun y => (vS y)) r
def acsL2Quote_J1 : AC := (.ops [.mv 24 5, .mv 25 0, .mv 26 6, .ix 27 25 26, .bsl 28 5 1 [27], .app 29 5 1 1 24 28, .asg 5 29])
def acsL2Quote_L0 : AC := (.loop (.seq (.seq (.ops [.mv 9 6, .mv 10 0, .lns 11 10, .bin 12 .lss 9 11]) (.cond 12 .skip (.exit 0))) (.seq (.block 1 (.seq (.seq (.ops [.mv 15 0, .mv 16 6, .ix 17 15 16, .mv 18 1, .bin 19 .eql 17 18]) (.cond 19 (.ops [.mv 20 5, .mv 21 1, .bsl 22 5 1 [21], .app 23 5 1 1 20 22, .asg 5 23]) .skip)) acsL2Quote_J1)) (.ops [.mv 13 6, .bin 14 .add 13 (kI 1), .asg 6 14]))))
def acsL2Quote : AC := (.seq (.ops [.asg 4 (.c (.d (.s (bs []))))]) (.seq (.ops [.mv 7 1, .bsl 8 5 1 [7], .asg 5 8]) (.seq (.seq (.ops [.asg 6 (kI 0)]) (.block 0 acsL2Quote_L0)) (.seq (.ops [.mv 30 5, .mv 31 1, .bsl 32 5 1 [31], .app 33 5 1 1 30 32, .cbs 34 33, .asg 4 34]) .ret))))
theorem trsL2Quote : trFn Tryd.prog 27 = some (acsL2Quote, [.mv 0 4], 35) := by kernel_rfl
def qsL2Quote (r : (List UInt8)) : Exit → St → Prop := retQ [.mv 0 4] fun x _ => x = (fun y => (vS y)) r
def qsL2Quote_0 (r : (List UInt8)) : Exit → St → Prop := (thenK (wkK (avc Tryd.prog (.seq (.ops [.mv 30 5, .mv 31 1, .bsl 32 5 1 [31], .app 33 5 1 1 30 32, .cbs 34 33, .asg 4 34]) .ret) (qsL2Quote r))) (qsL2Quote r))
def qsL2Quote_1 (r : (List UInt8)) : Exit → St → Prop := (blockK 0 (qsL2Quote_0 r))
def qsL2Quote_2 (r : (List UInt8)) : Exit → St → Prop := (thenK (avc Tryd.prog acsL2Quote_L0 (qsL2Quote_1 r)) (qsL2Quote_1 r))
def qsL2Quote_3 (r : (List UInt8)) : Exit → St → Prop := (thenK (wkK (avc Tryd.prog (.ops [.mv 13 6, .bin 14 .add 13 (.c (.d (.i .i64 1))), .asg 6 14]) (qsL2Quote_2 r))) (qsL2Quote_2 r))
def qsL2Quote_4 (r : (List UInt8)) : Exit → St → Prop := (blockK 1 (qsL2Quote_3 r))
def stsL2Quote_L0 (p0 : (List UInt8)) (p1 : Int) (x5 : (List Int)) (x6 : Int) : St := ⟨[(0, (vS p0)), (1, (.d (.i .u8 p1))), (5, (.osl 5 5 1 (x5.map cU8))), (6, (vI x6))], []⟩
def stsL2Quote_J1 (p0 : (List UInt8)) (p1 : Int) (x6 : Int) (x5_3 : (List Int)) : St := ⟨[(0, (vS p0)), (1, (.d (.i .u8 p1))), (5, (.osl 5 5 1 (x5_3.map cU8))), (6, (vI x6))], []⟩
def acsDigits_J1 : AC := (.seq (.ops [.mv 18 5, .bin 19 .add (kI 48) 18, .cvi 20 .u8 19, .bsl 21 5 1 [20], .cbs 22 21, .mv 23 4, .bin 24 .add 22 23, .asg 4 24]) (.ops [.mv 25 0, .bin 26 .quo 25 (kI 10), .asg 0 26]))
def acsDigits_L0 : AC := (.loop (.seq (.seq (.ops [.mv 10 0, .bin 11 .neq 10 (kI 0)]) (.cond 11 .skip (.exit 0))) (.block 1 (.seq (.ops [.mv 12 0, .bin 13 .rem 12 (kI 10), .asg 5 13]) (.seq (.seq (.ops [.mv 14 5, .bin 15 .lss 14 (kI 0)]) (.cond 15 (.ops [.mv 16 5, .bin 17 .sub (kI 0) 16, .asg 5 17]) .skip)) acsDigits_J1)))))
def acsDigits : AC := (.seq (.ops [.asg 2 (.c (.d (.s (bs []))))]) (.seq (.seq (.ops [.mv 6 0, .bin 7 .eql 6 (kI 0)]) (.cond 7 (.seq (.ops [.asg 2 (.c (.d (.s (bs [48]))))]) .ret) .skip)) (.seq (.ops [.mv 8 0, .bin 9 .lss 8 (kI 0), .asg 3 9]) (.seq (.ops [.asg 4 (.c (.d (.s (bs []))))]) (.seq (.block 0 acsDigits_L0) (.seq (.seq (.ops [.mv 27 3]) (.cond 27 (.seq (.ops [.mv 28 4, .bin 29 .add (.c (.d (.s (bs [45])))) 28, .asg 2 29]) .ret) .skip)) (.seq (.ops [.mv 30 4, .asg 2 30]) .ret)))))))
theorem trsDigits : trFn Tryd.prog 18 = some (acsDigits, [.mv 0 2], 31) := by kernel_rfl
def qsDigits (r : (List UInt8)) : Exit → St → Prop := retQ [.mv 0 2] fun x _ => x = (fun y => (vS y)) r
def qsDigits_0 (r : (List UInt8)) : Exit → St → Prop := (thenK (wkK (avc Tryd.prog (.seq (.seq (.ops [.mv 27 3]) (.cond 27 (.seq (.ops [.mv 28 4, .bin 29 .add (.c (.d (.s (bs [45])))) 28, .asg 2 29]) .ret) .skip)) (.seq (.ops [.mv 30 4, .asg 2 30]) .ret)) (qsDigits r))) (qsDigits r))
def qsDigits_1 (r : (List UInt8)) : Exit → St → Prop := (blockK 0 (qsDigits_0 r))
def qsDigits_2 (r : (List UInt8)) : Exit → St → Prop := (thenK (avc Tryd.prog acsDigits_L0 (qsDigits_1 r)) (qsDigits_1 r))
def qsDigits_3 (r : (List UInt8)) : Exit → St → Prop := (blockK 1 (qsDigits_2 r))
def stsDigits_L0 (p0 : Int) (x0 : Int) (x4 : (List UInt8)) : St := ⟨[(0, (vI x0)), (3, (vB (decide (p0 < 0)))), (4, (vS x4))], []⟩
def stsDigits_J1 (x0 : Int) (p0 : Int) (x4 : (List UInt8)) (x5 : Int) : St := ⟨[(0, (vI x0)), (3, (vB (decide (p0 < 0)))), (4, (vS x4)), (5, (vI x5))], []⟩
def acsValueOk : AC := (.seq (.ops [.box 1 35 0, .asg 2 (kB false)]) (.seq (.seq (.ops [.fa 3 0 1, .ld 4 1 false 3]) (.block 0 (.seq (.ops [.bin 6 .eql 4 (kI 0), .asg 5 6]) (.cond 5 (.seq (.ops [.fa 7 1 1, .ld 8 1 false 7, .bin 9 .eql 8 (kI 0), .mv 10 9, .g 10 true (.fa 11 2 1), .g 10 true (.ld 12 1 false 11), .g 10 true (.bin 13 .eql 12 (.c (.d (.s (bs []))))), .pick 14 10 13 (kB false), .asg 2 14]) .ret) (.seq (.ops [.bin 16 .eql 4 (kI 1), .asg 15 16]) (.cond 15 (.seq (.ops [.fa 17 2 1, .ld 18 1 false 17, .bin 19 .eql 18 (.c (.d (.s (bs [])))), .asg 2 19]) .ret) (.seq (.ops [.bin 21 .eql 4 (kI 2), .asg 20 21]) (.cond 20 (.seq (.ops [.fa 22 1 1, .ld 23 1 false 22, .bin 24 .eql 23 (kI 0), .mv 25 24, .g 25 true (.fa 26 2 1), .g 25 true (.ld 27 1 false 26), .g 25 true (.lns 28 27), .g 25 true (.bin 29 .leq 28 (kI 200)), .pick 30 25 29 (kB false), .asg 2 30]) .ret) (.seq (.ops [.bin 32 .eql 4 (kI 3), .asg 31 32]) (.cond 31 (.seq (.ops [.fa 33 1 1, .ld 34 1 false 33, .call (some 35) 26 [34, (kI 0), (kI 1)], .mv 36 35, .g 36 true (.fa 37 2 1), .g 36 true (.ld 38 1 false 37), .g 36 true (.bin 39 .eql 38 (.c (.d (.s (bs []))))), .pick 40 36 39 (kB false), .asg 2 40]) .ret) .skip)))))))))) (.seq (.ops [.asg 2 (kB false)]) .ret)))
theorem trsValueOk : trFn Tryd.prog 17 = some (acsValueOk, [.mv 0 2], 41) := by kernel_rfl
def qsValueOk (r : Bool) : Exit → St → Prop := retQ [.mv 0 2] fun x _ => x = (fun y => (vB y)) r
def acsL1In : AC := (.seq (.ops [.asg 6 (kB false)]) (.seq (.ops [.mv 7 0, .mv 8 1, .bin 9 .geq 7 8, .mv 10 9, .g 10 true (.mv 11 0), .g 10 true (.mv 12 2), .g 10 true (.bin 13 .leq 11 12), .pick 14 10 13 (kB false), .asg 6 14]) .ret))
theorem trsL1In : trFn Tryd.prog 26 = some (acsL1In, [.mv 0 6], 15) := by kernel_rfl
def qsL1In (r : Bool) : Exit → St → Prop := retQ [.mv 0 6] fun x _ => x = (fun y => (vB y)) r
def acwEqValueSS_L0 : AC := (.loop (.seq (.seq (.ops [.mv 11 5, .mv 12 0, .len 13 12, .bin 14 .lss 11 13]) (.cond 14 .skip (.exit 0))) (.seq (.block 1 (.seq (.dops [[], [], [0, 1], [2], [], [], [4, 5], [6], [3, 7], [8]] [.mv 17 0, .mv 18 5, .ia 19 1 17 18, .ld 20 1 false 19, .mv 21 1, .mv 22 5, .ia 23 1 21 22, .ld 24 1 false 23, .call (some 25) 15 [20, 24], .not 26 25]) (.cond 26 (.seq (.ops [.asg 4 (kB false)]) .ret) .skip))) (.ops [.mv 15 5, .bin 16 .add 15 (kI 1), .asg 5 16]))))
def acwEqValueSS : AC := (.seq (.ops [.asg 4 (kB false)]) (.seq (.seq (.ops [.mv 6 0, .len 7 6, .mv 8 1, .len 9 8, .bin 10 .neq 7 9]) (.cond 10 (.seq (.ops [.asg 4 (kB false)]) .ret) .skip)) (.seq (.seq (.ops [.asg 5 (kI 0)]) (.block 0 acwEqValueSS_L0)) (.seq (.ops [.asg 4 (kB true)]) .ret))))
theorem trwEqValueSS : trFn Tryd.prog 8 = some (acwEqValueSS, [.mv 0 4], 27) := by kernel_rfl
def qwEqValueSS (r : Bool) : Exit → St → Prop := retQ [.mv 0 4] fun x _ => x = (fun y => (vB y)) r
def qwEqValueSS_0 (r : Bool) : Exit → St → Prop := (thenK (wkK (avc Tryd.prog (.seq (.ops [.asg 4 (.c (.d (.b true)))]) .ret) (qwEqValueSS r))) (qwEqValueSS r))
def qwEqValueSS_1 (r : Bool) : Exit → St → Prop := (blockK 0 (qwEqValueSS_0 r))
def stwEqValueSS_L0 (p0 : (List (List GValue))) (p1 : (List (List GValue))) (x5 : Int) : St := ⟨[(0, (.d (.sl 1 (p0.map (cSl 3 cGValue))))), (1, (.d (.sl 1 (p1.map (cSl 3 cGValue))))), (5, (vI x5))], []⟩
def acwEqValueS_L0 : AC := (.loop (.seq (.seq (.ops [.mv 11 5, .mv 12 0, .len 13 12, .bin 14 .lss 11 13]) (.cond 14 .skip (.exit 0))) (.seq (.block 1 (.seq (.dops [[], [], [0, 1], [2], [], [], [4, 5], [6], [3, 7], [8]] [.mv 17 0, .mv 18 5, .ia 19 3 17 18, .ld 20 3 true 19, .mv 21 1, .mv 22 5, .ia 23 3 21 22, .ld 24 3 true 23, .call (some 25) 25 [20, 24], .not 26 25]) (.cond 26 (.seq (.ops [.asg 4 (kB false)]) .ret) .skip))) (.ops [.mv 15 5, .bin 16 .add 15 (kI 1), .asg 5 16]))))
def acwEqValueS : AC := (.seq (.ops [.asg 4 (kB false)]) (.seq (.seq (.ops [.mv 6 0, .len 7 6, .mv 8 1, .len 9 8, .bin 10 .neq 7 9]) (.cond 10 (.seq (.ops [.asg 4 (kB false)]) .ret) .skip)) (.seq (.seq (.ops [.asg 5 (kI 0)]) (.block 0 acwEqValueS_L0)) (.seq (.ops [.asg 4 (kB true)]) .ret))))
theorem trwEqValueS : trFn Tryd.prog 15 = some (acwEqValueS, [.mv 0 4], 27) := by kernel_rfl
def qwEqValueS (r : Bool) : Exit → St → Prop := retQ [.mv 0 4] fun x _ => x = (fun y => (vB y)) r
def qwEqValueS_0 (r : Bool) : Exit → St → Prop := (thenK (wkK (avc Tryd.prog (.seq (.ops [.asg 4 (.c (.d (.b true)))]) .ret) (qwEqValueS r))) (qwEqValueS r))
def qwEqValueS_1 (r : Bool) : Exit → St → Prop := (blockK 0 (qwEqValueS_0 r))
def stwEqValueS_L0 (p0 : (List GValue)) (p1 : (List GValue)) (x5 : Int) : St := ⟨[(0, (.d (.sl 3 (p0.map cGValue)))), (1, (.d (.sl 3 (p1.map cGValue)))), (5, (vI x5))], []⟩
def acwEqValue : AC := (.seq (.ops [.box 2 35 0, .box 3 35 1, .asg 4 (kB false)]) (.seq (.seq (.ops [.fa 5 0 2, .ld 6 1 false 5, .fa 7 0 3, .ld 8 1 false 7, .bin 9 .neq 6 8]) (.cond 9 (.seq (.ops [.asg 4 (kB false)]) .ret) .skip)) (.seq (.seq (.ops [.fa 10 1 2, .ld 11 1 false 10, .fa 12 1 3, .ld 13 1 false 12, .bin 14 .neq 11 13]) (.cond 14 (.seq (.ops [.asg 4 (kB false)]) .ret) .skip)) (.seq (.seq (.ops [.fa 15 2 2, .ld 16 1 false 15, .fa 17 2 3, .ld 18 1 false 17, .bin 19 .neq 16 18]) (.cond 19 (.seq (.ops [.asg 4 (kB false)]) .ret) .skip)) (.seq (.ops [.asg 4 (kB true)]) .ret)))))
theorem trwEqValue : trFn Tryd.prog 25 = some (acwEqValue, [.mv 0 4], 20) := by kernel_rfl
def qwEqValue (r : Bool) : Exit → St → Prop := retQ [.mv 0 4] fun x _ => x = (fun y => (vB y)) r
def aciRowsText_J2 : AC := (.ops [.ld 25 3 true 7, .call (some 26) 13 [25], .call (some 27) 12 [3, 26]])
def aciRowsText_L1 : AC := (.loop (.seq (.ops [.bin 18 .lss 17 16]) (.seq (.cond 18 .skip (.exit 2)) (.seq (.block 3 (.seq (.ops [.mv 19 17, .ia 20 3 15 17, .ld 21 3 true 20, .alc 7 [(.d (.i .i64 0)), (.d (.i .i64 0)), (.d (.s (bs [])))], .asg 6 19, .st 3 7 21]) (.seq (.seq (.ops [.mv 22 6, .bin 23 .gtr 22 (kI 0)]) (.cond 23 (.ops [.call (some 24) 12 [3, (.c (.d (.s (bs [124]))))]]) .skip)) aciRowsText_J2))) (.ops [.bin 28 .add 17 (kI 1), .mv 17 28])))))
def aciRowsText_L0 : AC := (.loop (.seq (.ops [.bin 12 .lss 11 10]) (.seq (.cond 12 .skip (.exit 0)) (.seq (.block 1 (.seq (.ops [.ia 13 1 9 11, .ld 14 1 false 13, .asg 5 14]) (.seq (.seq (.ops [.mv 15 5, .len 16 15, .mv 17 (kI 0)]) (.block 2 aciRowsText_L1)) (.ops [.call (some 29) 12 [3, (.c (.d (.s (bs [10]))))]])))) (.ops [.bin 30 .add 11 (kI 1), .mv 11 30])))))
def aciRowsText : AC := (.seq (.ops [.asg 2 (.c (.d (.s (bs []))))]) (.seq (.ops [.bld 8 [.np, (.nil 1)] [], .alc 3 [(.bp 3 39), (.nil 1)], .st 2 3 8]) (.seq (.seq (.ops [.mv 9 0, .len 10 9, .mv 11 (kI 0)]) (.block 0 aciRowsText_L0)) (.seq (.ops [.call (some 31) 14 [3], .asg 2 31]) .ret))))
theorem triRowsText : trFn Tryd.prog 7 = some (aciRowsText, [.mv 0 2], 32) := by kernel_rfl
def qiRowsText (r : (List UInt8)) : Exit → St → Prop := retQ [.mv 0 2] fun x _ => x = (fun y => (vS y)) r
def qiRowsText_0 (r : (List UInt8)) : Exit → St → Prop := (thenK (wkK (avc Tryd.prog (.seq (.ops [.call (some 31) 14 [3], .asg 2 31]) .ret) (qiRowsText r))) (qiRowsText r))
def qiRowsText_1 (r : (List UInt8)) : Exit → St → Prop := (blockK 0 (qiRowsText_0 r))
def qiRowsText_2 (r : (List UInt8)) : Exit → St → Prop := (thenK (avc Tryd.prog aciRowsText_L0 (qiRowsText_1 r)) (qiRowsText_1 r))
def qiRowsText_3 (r : (List UInt8)) : Exit → St → Prop := (thenK (wkK (avc Tryd.prog (.ops [.bin 30 .add 11 (.c (.d (.i .i64 1))), .mv 11 30]) (qiRowsText_2 r))) (qiRowsText_2 r))
def qiRowsText_4 (r : (List UInt8)) : Exit → St → Prop := (blockK 1 (qiRowsText_3 r))
def qiRowsText_5 (r : (List UInt8)) : Exit → St → Prop := (thenK (wkK (avc Tryd.prog (.ops [.call (some 29) 12 [3, (.c (.d (.s (bs [10]))))]]) (qiRowsText_4 r))) (qiRowsText_4 r))
def qiRowsText_6 (r : (List UInt8)) : Exit → St → Prop := (blockK 2 (qiRowsText_5 r))
def qiRowsText_7 (r : (List UInt8)) : Exit → St → Prop := (thenK (avc Tryd.prog aciRowsText_L1 (qiRowsText_6 r)) (qiRowsText_6 r))
def qiRowsText_8 (r : (List UInt8)) : Exit → St → Prop := (thenK (wkK (avc Tryd.prog (.ops [.bin 28 .add 17 (.c (.d (.i .i64 1))), .mv 17 28]) (qiRowsText_7 r))) (qiRowsText_7 r))
def qiRowsText_9 (r : (List UInt8)) : Exit → St → Prop := (blockK 3 (qiRowsText_8 r))
def stiRowsText_L0 (p0 : (List (List GValue))) (x11 : Int) (b3_1 : (List Int)) : St := ⟨[(3, (.ptr 3 0)), (9, (.d (.sl 1 (p0.map (cSl 3 cGValue))))), (10, (vI (p0.length : Int))), (11, (vI x11))], [(3, [(.bp 3 39), (.osl 5072501 5 1 (b3_1.map cU8))])]⟩
def stiRowsText_L1 (p0 : (List (List GValue))) (x11 : Int) (y1 : (List GValue)) (x17 : Int) (b3_1_2 : (List Int)) : St := ⟨[(3, (.ptr 3 0)), (9, (.d (.sl 1 (p0.map (cSl 3 cGValue))))), (10, (vI (p0.length : Int))), (11, (vI x11)), (15, (.d (.sl 3 (y1.map cGValue)))), (16, (vI (y1.length : Int))), (17, (vI x17))], [(3, [(.bp 3 39), (.osl 5072501 5 1 (b3_1_2.map cU8))])]⟩
def stiRowsText_J2 (p0 : (List (List GValue))) (x11 : Int) (y1 : (List GValue)) (x17 : Int) (y4 : GValue) (b3_1_6 : (List Int)) : St := ⟨[(3, (.ptr 3 0)), (7, (.ptr 7 0)), (9, (.d (.sl 1 (p0.map (cSl 3 cGValue))))), (10, (vI (p0.length : Int))), (11, (vI x11)), (15, (.d (.sl 3 (y1.map cGValue)))), (16, (vI (y1.length : Int))), (17, (vI x17))], [(3, [(.bp 3 39), (.osl 5062501 5 1 (b3_1_6.map cU8))]), (7, bGValue y4)]⟩
def aciValueText : AC := (.seq (.ops [.box 1 35 0, .asg 2 (.c (.d (.s (bs []))))]) (.seq (.seq (.ops [.ld 3 3 true 1, .call (some 4) 22 [3], .not 5 4]) (.cond 5 (.seq (.ops [.asg 2 (.c (.d (.s (bs [63]))))]) .ret) .skip)) (.seq (.seq (.ops [.fa 6 0 1, .ld 7 1 false 6]) (.block 0 (.seq (.ops [.bin 9 .eql 7 (kI 1), .asg 8 9]) (.cond 8 (.seq (.ops [.fa 10 1 1, .ld 11 1 false 10, .call (some 12) 23 [11], .asg 2 12]) .ret) (.seq (.ops [.bin 14 .eql 7 (kI 2), .asg 13 14]) (.cond 13 (.seq (.ops [.fa 15 2 1, .ld 16 1 false 15, .call (some 17) 24 [16], .asg 2 17]) .ret) (.seq (.ops [.bin 19 .eql 7 (kI 3), .asg 18 19]) (.cond 18 (.seq (.seq (.ops [.fa 20 1 1, .ld 21 1 false 20, .bin 22 .eql 21 (kI 1)]) (.cond 22 (.seq (.ops [.asg 2 (.c (.d (.s (bs [84, 82, 85, 69]))))]) .ret) .skip)) (.seq (.ops [.asg 2 (.c (.d (.s (bs [70, 65, 76, 83, 69]))))]) .ret)) .skip)))))))) (.seq (.ops [.asg 2 (.c (.d (.s (bs [78, 85, 76, 76]))))]) .ret))))
theorem triValueText : trFn Tryd.prog 13 = some (aciValueText, [.mv 0 2], 23) := by kernel_rfl
def qiValueText (r : (List UInt8)) : Exit → St → Prop := retQ [.mv 0 2] fun x _ => x = (fun y => (vS y)) r
def aciValueOk : AC := (.seq (.ops [.box 1 35 0, .asg 2 (kB false)]) (.seq (.seq (.ops [.fa 3 0 1, .ld 4 1 false 3]) (.block 0 (.seq (.ops [.bin 6 .eql 4 (kI 0), .asg 5 6]) (.cond 5 (.seq (.ops [.fa 7 1 1, .ld 8 1 false 7, .bin 9 .eql 8 (kI 0), .mv 10 9, .g 10 true (.fa 11 2 1), .g 10 true (.ld 12 1 false 11), .g 10 true (.bin 13 .eql 12 (.c (.d (.s (bs []))))), .pick 14 10 13 (kB false), .asg 2 14]) .ret) (.seq (.ops [.bin 16 .eql 4 (kI 1), .asg 15 16]) (.cond 15 (.seq (.ops [.fa 17 2 1, .ld 18 1 false 17, .bin 19 .eql 18 (.c (.d (.s (bs [])))), .asg 2 19]) .ret) (.seq (.ops [.bin 21 .eql 4 (kI 2), .asg 20 21]) (.cond 20 (.seq (.ops [.fa 22 1 1, .ld 23 1 false 22, .bin 24 .eql 23 (kI 0), .mv 25 24, .g 25 true (.fa 26 2 1), .g 25 true (.ld 27 1 false 26), .g 25 true (.lns 28 27), .g 25 true (.bin 29 .leq 28 (kI 200)), .pick 30 25 29 (kB false), .asg 2 30]) .ret) (.seq (.ops [.bin 32 .eql 4 (kI 3), .asg 31 32]) (.cond 31 (.seq (.ops [.fa 33 1 1, .ld 34 1 false 33, .bin 35 .eql 34 (kI 0), .mv 36 35, .g 36 false (.fa 37 1 1), .g 36 false (.ld 38 1 false 37), .g 36 false (.bin 39 .eql 38 (kI 1)), .pick 40 36 (kB true) 39, .mv 41 40, .g 41 true (.fa 42 2 1), .g 41 true (.ld 43 1 false 42), .g 41 true (.bin 44 .eql 43 (.c (.d (.s (bs []))))), .pick 45 41 44 (kB false), .asg 2 45]) .ret) .skip)))))))))) (.seq (.ops [.asg 2 (kB false)]) .ret)))
theorem triValueOk : trFn Tryd.prog 22 = some (aciValueOk, [.mv 0 2], 46) := by kernel_rfl
def qiValueOk (r : Bool) : Exit → St → Prop := retQ [.mv 0 2] fun x _ => x = (fun y => (vB y)) r
def aciQuoteText : AC := (.seq (.ops [.asg 2 (.c (.d (.s (bs []))))]) (.seq (.ops [.mv 3 0, .call (some 4) 30 [3, (.c (.d (.s (bs [39]))))], .asg 2 4]) .ret))
theorem triQuoteText : trFn Tryd.prog 24 = some (aciQuoteText, [.mv 0 2], 5) := by kernel_rfl
def qiQuoteText (r : (List UInt8)) : Exit → St → Prop := retQ [.mv 0 2] fun x _ => x = (fun y => (vS y)) r
def aciQuoted : AC := (.seq (.ops [.asg 4 (.c (.d (.s (bs []))))]) (.seq (.ops [.mv 5 1, .mv 6 0, .mv 7 1, .mv 8 1, .mv 9 1, .bin 10 .add 8 9, .call (some 11) 32 [6, 7, 10], .bin 12 .add 5 11, .mv 13 1, .bin 14 .add 12 13, .asg 4 14]) .ret))
theorem triQuoted : trFn Tryd.prog 30 = some (aciQuoted, [.mv 0 4], 15) := by kernel_rfl
def qiQuoted (r : (List UInt8)) : Exit → St → Prop := retQ [.mv 0 4] fun x _ => x = (fun y => (vS y)) r

def aciDigits : AC := (.seq (.ops [.asg 2 (.c (.d (.s (bs []))))]) (.seq (.ops [.mv 3 0, .call (some 4) 29 [3], .asg 2 4]) .ret))
theorem triDigits : trFn Tryd.prog 23 = some (aciDigits, [.mv 0 2], 5) := by kernel_rfl
def qiDigits (r : (List UInt8)) : Exit → St → Prop := retQ [.mv 0 2] fun x _ => x = (fun y => (vS y)) r

set_option maxHeartbeats 2000000 in
set_option maxRecDepth 100000 in
theorem bstr_row_14 : ∀ (b g cap : Nat) (cur : Array Value) (s : List UInt8) (w : World), w.cell? ⟨b, 1, none⟩ = some (.slice (some ⟨g, 0, none⟩) s.length cap) → s ≠ [] → s.length ≤ cap → cap ≤ maxLen → cur.size = cap * 1 →
    w.heap[g]? = some (.cells cur 5 (0, 0)) → (∀ j x, s[j]? = some x → w.cell? ((⟨g, 0, none⟩ : Addr).add j) = some (.int .u8 x.toNat)) →
    Calls Tryd.prog 14 #[.pointer (some ⟨b, 0, none⟩)] w fun e w' => e = .returned (.string ⟨s.toArray⟩) ∧ w' = w.drew.freeze ⟨g, 0, none⟩ s.length := by
  intro b g cap cur s w c0 h0 hnc hcm hcs hg hcell
  have hl0 : s.length ≠ 0 := by simpa using h0
  have c1 : w.drew.cell? ⟨b, 1, none⟩ = some (.slice (some ⟨g, 0, none⟩) s.length cap) := c0
  have hSD : (Builtin.unsafeSliceData_ #[31] 52 #[.slice (some ⟨g, 0, none⟩) s.length cap]).run Tryd.prog w.drew = .ok (.pointer (some ⟨g, 0, none⟩)) w.drew :=
    Lib.run_unsafeSliceData_row _ _ _ _ _ _ (by omega)
  have hUS : (Builtin.unsafeString_ #[52, 3] 9 #[.pointer (some ⟨g, 0, none⟩), .int .i64 s.length]).run Tryd.prog w.drew = .ok (.string ⟨s.toArray⟩) (w.drew.freeze ⟨g, 0, none⟩ s.length) := by
    refine Lib.run_unsafeString_row w.drew 52 3 9 5 (show Tryd.prog.underlying 52 = some (.pointer 5) by kernel_rfl) (show Tryd.prog.cellsOf 5 = 1 by kernel_rfl) g cur.size (by have hg' : w.drew.heap[g]? = some (.cells cur 5 (0, 0)) := hg; simp [World.shape?, hg']) s h0 (by omega) (by unfold maxLen at hcm; omega) ?_
    intro j x hx
    exact hcell j x hx
  go_enter Tryd.func14, Tryd.ntmps14
  go_wp2
  go_region
  all_goals (go_wp2; go_ret; exact ⟨rfl, rfl⟩)
set_option maxHeartbeats 2000000 in
set_option maxRecDepth 100000 in
theorem bstr_nil_14 : ∀ (b : Nat) (w : World), w.cell? ⟨b, 1, none⟩ = some (.slice none 0 0) → Calls Tryd.prog 14 #[.pointer (some ⟨b, 0, none⟩)] w fun e w' => e = .returned (.string ⟨#[]⟩) ∧ w' = w.drew := by
  intro b w c0
  have hUS : ∀ (W : World) (q : Option Addr), (Builtin.unsafeString_ #[52, 3] 9 #[.pointer q, .int .i64 0]).run Tryd.prog W = .ok (.string .empty) W := fun W q => Lib.run_unsafeString_none W _ _ _ q
  have c1 : w.drew.cell? ⟨b, 1, none⟩ = some (.slice none 0 0) := c0
  have hSD : (Builtin.unsafeSliceData_ #[31] 52 #[.slice none 0 0]).run Tryd.prog w.drew = .ok (.pointer none) w.drew := rfl
  go_enter Tryd.func14, Tryd.ntmps14
  go_wp2
  go_region
  all_goals (go_wp2; go_ret; exact ⟨rfl, rfl⟩)
set_option maxHeartbeats 2000000 in
set_option maxRecDepth 100000 in
theorem bstr_noroom_14 : ∀ (b g : Nat) (cur : Array Value) (w : World), w.cell? ⟨b, 1, none⟩ = some (.slice (some ⟨g, 0, none⟩) 0 0) → b < w.heap.size → w.heap[g]? = some (.cells cur 5 (0, 0)) →
    Calls Tryd.prog 14 #[.pointer (some ⟨b, 0, none⟩)] w fun e' w' => e' = .returned (.string ⟨#[]⟩) ∧ w' = w.drew.alloc (.view ⟨g, 0, none⟩ 5) := by
  intro b g cur w c0 hlt hg
  have hUS : ∀ (W : World) (q : Option Addr), (Builtin.unsafeString_ #[52, 3] 9 #[.pointer q, .int .i64 0]).run Tryd.prog W = .ok (.string .empty) W := fun W q => Lib.run_unsafeString_none W _ _ _ q
  have c1 : w.drew.cell? ⟨b, 1, none⟩ = some (.slice (some ⟨g, 0, none⟩) 0 0) := c0
  have hSD : (Builtin.unsafeSliceData_ #[31] 52 #[.slice (some ⟨g, 0, none⟩) 0 0]).run Tryd.prog w.drew = .ok (.pointer (some ⟨w.drew.heap.size, 0, none⟩)) (w.drew.alloc (.view ⟨g, 0, none⟩ 5)) :=
    Lib.run_unsafeSliceData_zero w.drew _ _ 5 (show Tryd.prog.underlying 52 = some (.pointer 5) by kernel_rfl) ⟨g, 0, none⟩ 0 (5, cur.size) (by have hg' : w.drew.heap[g]? = some (.cells cur 5 (0, 0)) := hg; simp [World.shape?, hg'])
  have c2 : (w.drew.alloc (.view ⟨g, 0, none⟩ 5)).cell? ⟨b, 1, none⟩ = some (.slice (some ⟨g, 0, none⟩) 0 0) :=
    (World.cell?_of_block (a := ⟨b, 1, none⟩) (RowKit.Below.heap_alloc w.drew _ b hlt)).trans c1
  have c3 : (w.alloc (.view ⟨g, 0, none⟩ 5)).drew.cell? ⟨b, 1, none⟩ = some (.slice (some ⟨g, 0, none⟩) 0 0) := c2
  go_enter Tryd.func14, Tryd.ntmps14
  go_wp2
  go_region
  all_goals (go_wp2; go_ret; exact ⟨rfl, rfl⟩)
set_option maxHeartbeats 2000000 in
set_option maxRecDepth 100000 in
theorem bstr_room_14 : ∀ (b g cap : Nat) (w : World), cap ≠ 0 → w.cell? ⟨b, 1, none⟩ = some (.slice (some ⟨g, 0, none⟩) 0 cap) → Calls Tryd.prog 14 #[.pointer (some ⟨b, 0, none⟩)] w fun e w' => e = .returned (.string ⟨#[]⟩) ∧ w' = w.drew := by
  intro b g cap w hc0 c0
  have hUS : ∀ (W : World) (q : Option Addr), (Builtin.unsafeString_ #[52, 3] 9 #[.pointer q, .int .i64 0]).run Tryd.prog W = .ok (.string .empty) W := fun W q => Lib.run_unsafeString_none W _ _ _ q
  have c1 : w.drew.cell? ⟨b, 1, none⟩ = some (.slice (some ⟨g, 0, none⟩) 0 cap) := c0
  have hSD : (Builtin.unsafeSliceData_ #[31] 52 #[.slice (some ⟨g, 0, none⟩) 0 cap]).run Tryd.prog w.drew = .ok (.pointer (some ⟨g, 0, none⟩)) w.drew :=
    Lib.run_unsafeSliceData_row _ _ _ _ _ _ hc0
  clear hc0
  go_enter Tryd.func14, Tryd.ntmps14
  go_wp2
  go_region
  all_goals (go_wp2; go_ret; exact ⟨rfl, rfl⟩)
def acgStrings_Builder_WriteString_x : AC := (.seq (.ops [.asg 4 (kI 0), .asg 5 (.c .top)]) (.seq (.ops [.mv 6 0, .call (some 7) 21 [6]]) (.seq (.ops [.mv 8 0, .mv 9 0, .nck 10 9, .fa 11 1 10, .ld 12 1 false 11, .mv 13 1, .app 14 5 1 1 12 13, .nck 15 8, .fa 16 1 15, .st 1 16 14]) (.seq (.ops [.mv 17 1, .lns 18 17, .asg 4 18, .asg 5 (.c .top)]) .ret))))
theorem trgStrings_Builder_WriteString_x : trFn Tryd.prog 12 = some (acgStrings_Builder_WriteString_x, [.mv 0 4, .mv 0 5], 19) := by kernel_rfl
def qgStrings_Builder_WriteString_x (r : Int × (List Int)) : Exit → St → Prop := retQ [.mv 0 4, .mv 0 5] fun x b => x = (fun (y : Int × (List Int)) => (.tup [(vI y.1), .top])) r ∧ bxHas ((fun (y : Int × (List Int)) => [(1000000, [(.bp 1000000 39), (.osl 6000001 5 1 (y.2.map cU8))])]) r) b
set_option maxHeartbeats 2000000 in
set_option maxRecDepth 100000 in
theorem cc_used_21 : ∀ (b : Nat) (w : World), w.cell? ⟨b, 0, none⟩ = some (.pointer (some ⟨b, 0, none⟩)) → Calls Tryd.prog 21 #[.pointer (some ⟨b, 0, none⟩)] w fun e w' => e = .returned (.tuple #[]) ∧ w' = w := by
  intro b w h0
  go_enter Tryd.func21, Tryd.ntmps21
  go_wp2
  rw [Lib.run_neq_ptr_same w _ (show Tryd.prog.underlying 37 = some (.pointer 39) by kernel_rfl) (show Tryd.prog.info? 39 = some Tryd.t39 by kernel_rfl)]
  go_wp2
  go_end0
  exact ⟨rfl, rfl⟩
set_option maxHeartbeats 2000000 in
set_option maxRecDepth 100000 in
theorem cc_fresh_21_39 : ∀ (b : Nat) (w : World) (cs : Array Value), w.heap[b]? = some (.cells cs 39 (0, 0)) → cs.size = 2 → cs[0]? = some (.pointer none) →
    Calls Tryd.prog 21 #[.pointer (some ⟨b, 0, none⟩)] w fun e w' => e = .returned (.tuple #[]) ∧ w' = w.setCell ⟨b, 0, none⟩ (.pointer (some ⟨b, 0, none⟩)) := by
  intro b w cs hh hn hc
  have h0 : w.cell? ⟨b, 0, none⟩ = some (.pointer none) := by rw [cell_of_row w b 0 cs 39 (0, 0) hh]; exact hc
  have hsh : w.shape? b = some (39, 2) := by simp [World.shape?, hh, hn]
  have hfz : w.frozen? ⟨b, 0, none⟩ = false := by simp [World.frozen?, hh]
  go_enter Tryd.func21, Tryd.ntmps21
  go_wp2
  rw [Lib.run_to_unsafe w ⟨b, 0, none⟩ (show Tryd.prog.underlying 37 = some (.pointer 39) by kernel_rfl) (show Tryd.prog.underlying 56 = some (.unsafePointer) by kernel_rfl) (show Tryd.prog.info? 39 = some Tryd.t39 by kernel_rfl) (by decide +kernel) hsh (Nat.zero_lt_succ 1)]
  simp only [Result.andThen]
  rw [Oper.upon_value]
  go_wp2
  rw [run_callFunc_extern Tryd.func28 (by kernel_rfl) (by kernel_rfl) (by kernel_rfl) (e := Extern.AbiNoEscape.same) (by kernel_rfl)]
  rw [Lib.run_noEscape]
  simp only [Result.andThen]
  rw [Oper.upon_value]
  go_wp2
  rw [Lib.run_from_unsafe w ⟨b, 0, none⟩ (show Tryd.prog.underlying 56 = some (.unsafePointer) by kernel_rfl) (show Tryd.prog.underlying 37 = some (.pointer 39) by kernel_rfl) (show Tryd.prog.info? 39 = some Tryd.t39 by kernel_rfl) hsh (by kernel_rfl)]
  simp only [Result.andThen]
  rw [Oper.upon_value]
  go_wp2
  go_end0
  exact ⟨rfl, rfl⟩
def acwSzValueSS_L0 : AC := (.loop (.seq (.seq (.ops [.mv 12 5, .mv 13 0, .len 14 13, .bin 15 .lss 12 14]) (.cond 15 .skip (.exit 0))) (.seq (.block 1 (.seq (.ops [.mv 18 0, .mv 19 5, .ia 20 1 18 19, .ld 21 1 false 20, .mv 22 1, .call (some 23) 9 [21, 22], .asg 1 23]) (.seq (.ops [.mv 24 1, .bin 25 .lss 24 (kI 0)]) (.cond 25 (.seq (.ops [.asg 4 (kI (-1))]) .ret) .skip)))) (.ops [.mv 16 5, .bin 17 .add 16 (kI 1), .asg 5 17]))))
def acwSzValueSS : AC := (.seq (.ops [.asg 4 (kI 0)]) (.seq (.ops [.mv 6 1, .mv 7 0, .len 8 7, .bin 9 .sub 6 8, .asg 1 9]) (.seq (.seq (.ops [.mv 10 1, .bin 11 .lss 10 (kI 0)]) (.cond 11 (.seq (.ops [.asg 4 (kI (-1))]) .ret) .skip)) (.seq (.seq (.ops [.asg 5 (kI 0)]) (.block 0 acwSzValueSS_L0)) (.seq (.ops [.mv 26 1, .asg 4 26]) .ret)))))
theorem trwSzValueSS : trFn Tryd.prog 4 = some (acwSzValueSS, [.mv 0 4], 27) := by kernel_rfl
def qwSzValueSS (r : Int) : Exit → St → Prop := retQ [.mv 0 4] fun x _ => x = (fun y => (vI y)) r
def qwSzValueSS_0 (r : Int) : Exit → St → Prop := (thenK (wkK (avc Tryd.prog (.seq (.ops [.mv 26 1, .asg 4 26]) .ret) (qwSzValueSS r))) (qwSzValueSS r))
def qwSzValueSS_1 (r : Int) : Exit → St → Prop := (blockK 0 (qwSzValueSS_0 r))
def stwSzValueSS_L0 (p0 : (List (List GValue))) (x1 : Int) (x5 : Int) : St := ⟨[(0, (.d (.sl 1 (p0.map (cSl 3 cGValue))))), (1, (vI x1)), (5, (vI x5))], []⟩
def acwSzValueS_L0 : AC := (.loop (.seq (.seq (.ops [.mv 12 5, .mv 13 0, .len 14 13, .bin 15 .lss 12 14]) (.cond 15 .skip (.exit 0))) (.seq (.block 1 (.seq (.ops [.mv 18 0, .mv 19 5, .ia 20 3 18 19, .ld 21 3 true 20, .mv 22 1, .call (some 23) 16 [21, 22], .asg 1 23]) (.seq (.ops [.mv 24 1, .bin 25 .lss 24 (kI 0)]) (.cond 25 (.seq (.ops [.asg 4 (kI (-1))]) .ret) .skip)))) (.ops [.mv 16 5, .bin 17 .add 16 (kI 1), .asg 5 17]))))
def acwSzValueS : AC := (.seq (.ops [.asg 4 (kI 0)]) (.seq (.ops [.mv 6 1, .mv 7 0, .len 8 7, .bin 9 .sub 6 8, .asg 1 9]) (.seq (.seq (.ops [.mv 10 1, .bin 11 .lss 10 (kI 0)]) (.cond 11 (.seq (.ops [.asg 4 (kI (-1))]) .ret) .skip)) (.seq (.seq (.ops [.asg 5 (kI 0)]) (.block 0 acwSzValueS_L0)) (.seq (.ops [.mv 26 1, .asg 4 26]) .ret)))))
theorem trwSzValueS : trFn Tryd.prog 9 = some (acwSzValueS, [.mv 0 4], 27) := by kernel_rfl
def qwSzValueS (r : Int) : Exit → St → Prop := retQ [.mv 0 4] fun x _ => x = (fun y => (vI y)) r
def qwSzValueS_0 (r : Int) : Exit → St → Prop := (thenK (wkK (avc Tryd.prog (.seq (.ops [.mv 26 1, .asg 4 26]) .ret) (qwSzValueS r))) (qwSzValueS r))
def qwSzValueS_1 (r : Int) : Exit → St → Prop := (blockK 0 (qwSzValueS_0 r))
def stwSzValueS_L0 (p0 : (List GValue)) (x1 : Int) (x5 : Int) : St := ⟨[(0, (.d (.sl 3 (p0.map cGValue)))), (1, (vI x1)), (5, (vI x5))], []⟩
def acwSzValue : AC := (.seq (.ops [.box 2 47 0, .asg 4 (kI 0)]) (.seq (.ops [.mv 5 1, .fa 6 2 2, .ld 7 1 false 6, .lns 8 7, .bin 9 .sub 5 8, .asg 1 9]) (.seq (.seq (.ops [.mv 10 1, .bin 11 .lss 10 (kI 0)]) (.cond 11 (.seq (.ops [.asg 4 (kI (-1))]) .ret) .skip)) (.seq (.ops [.mv 12 1, .asg 4 12]) .ret))))
theorem trwSzValue : trFn Tryd.prog 16 = some (acwSzValue, [.mv 0 4], 13) := by kernel_rfl
def qwSzValue (r : Int) : Exit → St → Prop := retQ [.mv 0 4] fun x _ => x = (fun y => (vI y)) r
def acwToValueSS_L0 : AC := (.loop (.seq (.seq (.ops [.mv 8 4, .mv 9 0, .len 10 9, .bin 11 .lss 8 10]) (.cond 11 .skip (.exit 0))) (.seq (.block 1 (.ops [.mv 14 3, .mv 15 4, .mv 16 0, .mv 17 4, .ia 18 1 16 17, .ld 19 1 false 18, .call (some 20) 11 [19], .ia 21 1 14 15, .st 1 21 20])) (.ops [.mv 12 4, .bin 13 .add 12 (kI 1), .asg 4 13]))))
def acwToValueSS : AC := (.seq (.ops [.asg 2 (.c (.nil 1))]) (.seq (.ops [.mv 5 0, .len 6 5, .mks 7 32 1 24 [(.sl 3 [])] 6 6, .asg 3 7]) (.seq (.seq (.ops [.asg 4 (kI 0)]) (.block 0 acwToValueSS_L0)) (.seq (.ops [.mv 22 3, .asg 2 22]) .ret))))
theorem trwToValueSS : trFn Tryd.prog 6 = some (acwToValueSS, [.mv 0 2], 23) := by kernel_rfl
def qwToValueSS (r : (List (List GValue))) : Exit → St → Prop := retQ [.mv 0 2] fun x _ => x = (fun y => (.d (.sl 1 (y.map (cSl 3 cGValue))))) r
def qwToValueSS_0 (r : (List (List GValue))) : Exit → St → Prop := (thenK (wkK (avc Tryd.prog (.seq (.ops [.mv 22 3, .asg 2 22]) .ret) (qwToValueSS r))) (qwToValueSS r))
def qwToValueSS_1 (r : (List (List GValue))) : Exit → St → Prop := (blockK 0 (qwToValueSS_0 r))
def stwToValueSS_L0 (p0 : (List (List GValue))) (x4 : Int) (b7_0 : (List (List GValue))) : St := ⟨[(0, (.d (.sl 1 (p0.map (cSl 3 cGValue))))), (3, (.msl 7 1 0 b7_0.length b7_0.length)), (4, (vI x4))], [(7, rowsV (b7_0.map (cSl 3 cGValue)))]⟩
theorem koGValue (x : GValue) (h : ∀ d ∈ cGValue x, OkD d) : okGValue x := ⟨ko_i _ (ko_sub h 0 1), ko_i _ (ko_sub h 1 1), ko_s _ (ko_sub h 2 1)⟩
theorem de3 {l : List D} (h : WtC Tryd.prog 3 l) : ∃ x : Int, l = cI x := (wt_i h (k := .i64) (by kernel_rfl))
theorem de9 {l : List D} (h : WtC Tryd.prog 9 l) : ∃ x : (List UInt8), l = cStr x := (wt_s h (by kernel_rfl))
theorem de47 {l : List D} (h : WtC Tryd.prog 47 l) : ∃ x : GValue, l = cGValue x := by
  obtain ⟨x0, e0⟩ := de3 (wt_fld h 0 (off := 0) (n := 1) (by kernel_rfl))
  obtain ⟨x1, e1⟩ := de3 (wt_fld h 1 (off := 1) (n := 1) (by kernel_rfl))
  obtain ⟨x2, e2⟩ := de9 (wt_fld h 2 (off := 2) (n := 1) (by kernel_rfl))
  exact ⟨⟨x0, x1, x2⟩, (dr1 (m := 1) (by kernel_rfl) e0 (dr1 (m := 2) (by kernel_rfl) e1 (dr1 (m := 3) (by kernel_rfl) e2 (dr0 (wt_len h (n := 3) (by kernel_rfl))))))⟩
theorem de30 {l : List D} (h : WtC Tryd.prog 30 l) : ∃ x : (List GValue), l = (cSl 3 cGValue) x := (wt_sl h (e := 47) (n := 3) (c := cGValue) (by kernel_rfl) (by kernel_rfl) fun x hx => de47 hx)
theorem de22 {l : List D} (h : WtC Tryd.prog 22 l) : ∃ x : (List (List GValue)), l = (cSl 1 (cSl 3 cGValue)) x := (wt_sl h (e := 30) (n := 1) (c := (cSl 3 cGValue)) (by kernel_rfl) (by kernel_rfl) fun x hx => de30 hx)
theorem OK_gStrings_Builder_String_x (c0_1 : (List Int)) : FOkB Tryd.prog 14 [(.ptr 1000000 0)] [(1000000, [(.bp 1000000 39), (.osl 6000001 5 1 (c0_1.map cU8))])] (fun (y : (List UInt8) × (List Int)) => (vS y.1)) (fun (y : (List UInt8) × (List Int)) => [(1000000, [(.bp 1000000 39), (.d (.sl 1 (y.2.map cU8)))])]) (gStrings_Builder_String_x c0_1) := by
 intro r h
 rw [gStrings_Builder_String_x] at h
 obtain ⟨y, hy, h⟩ := Option.bind_eq_some_iff.1 h
 injection h with h
 subst h
 exact acalls_bstr 1000000 6000001 c0_1 y hy (bstr_of 39 bstr_row_14 bstr_nil_14 bstr_noroom_14 bstr_room_14)
theorem OK_gStrings_Builder_copyCheck_x (c0_1 : (List Int)) : FOkB Tryd.prog 21 [(.ptr 1000000 0)] [(1000000, [(.bp 1000000 39), (.osl 6000001 5 1 (c0_1.map cU8))])] (fun (y : Unit) => (.tup [])) (fun (y : Unit) => [(1000000, [(.bp 1000000 39), (.osl 6000001 5 1 (c0_1.map cU8))])]) (gStrings_Builder_copyCheck_x c0_1) := by
 intro r _
 exact acalls_cc 1000000 [.osl 6000001 5 1 (c0_1.map cU8)] cc_used_21 cc_fresh_21_39 rfl
theorem OK_gStrings_Builder_WriteString_x (c0_1 : (List Int)) (p1 : (List UInt8)) : FOkB Tryd.prog 12 [(.ptr 1000000 0), (vS p1)] [(1000000, [(.bp 1000000 39), (.osl 6000001 5 1 (c0_1.map cU8))])] (fun (y : Int × (List Int)) => (.tup [(vI y.1), .top])) (fun (y : Int × (List Int)) => [(1000000, [(.bp 1000000 39), (.osl 6000001 5 1 (y.2.map cU8))])]) (gStrings_Builder_WriteString_x c0_1 p1) := by
 intro r h
 rw [gStrings_Builder_WriteString_x] at h
 refine acalls_of_fn trgStrings_Builder_WriteString_x (Nat.le_of_ble_eq_true rfl) (by intro n hn; simp at hn; simp only [NX]; omega) ?_
 show avc Tryd.prog acgStrings_Builder_WriteString_x (qgStrings_Builder_WriteString_x _) ⟨[(0, (.ptr 1000000 0)), (1, (vS p1))], [(1000000, [(.bp 1000000 39), (.osl 6000001 5 1 (c0_1.map cU8))])]⟩
 delta acgStrings_Builder_WriteString_x
 refine so ?_
 let a0 : St := ⟨[(5, .top), (4, (vI 0)), (0, (.ptr 1000000 0)), (1, (vS p1))], [(1000000, [(.bp 1000000 39), (.osl 6000001 5 1 (c0_1.map cU8))])]⟩
 refine st 2 a0 (nx (so ?_))
 let a1 : St := a0.p [(6, (.ptr 1000000 0))]
 refine st 1 a1 ?_
 refine callg_step ⟨[(1000000, 1000000)], [(6000001, 6000001)], [], [], [], [(6000001, 6000001)], [], [6000001], []⟩ (m := gStrings_Builder_copyCheck_x c0_1) (S' := fun (y : Unit) => ⟨(7, (.tup [])) :: a1.env, [(1000000, [(.bp 1000000 39), (.osl 6000001 5 1 (c0_1.map cU8))])]⟩) h (OK_gStrings_Builder_copyCheck_x c0_1) (by kernel_rfl) (by kernel_rfl) (by kernel_rfl) (by kernel_rfl) (fun y => by kernel_rfl) (fun y => by kernel_rfl) ?_
 clear h; intro y1 h
 refine nx (so ?_)
 let a2 : St := ⟨(13, (vS p1)) :: (12, (.osl 6000001 5 1 (c0_1.map cU8))) :: (11, (.ptr 1000000 1)) :: (10, (.ptr 1000000 0)) :: (9, (.ptr 1000000 0)) :: (8, (.ptr 1000000 0)) :: (7, (.tup [])) :: a1.env, [(1000000, [(.bp 1000000 39), (.osl 6000001 5 1 (c0_1.map cU8))])]⟩
 refine st 6 a2 ?_
 refine app_step (t := 6000001) (l := c0_1) (m := (toBytes p1)) (f := cU8) (S' := fun y => ⟨[(14, (.osl 14 5 1 (y.map cU8))), (13, (vS p1)), (12, (.d (.sl 1 (c0_1.map cU8)))), (11, (.ptr 1000000 1)), (10, (.ptr 1000000 0)), (9, (.ptr 1000000 0)), (8, (.ptr 1000000 0)), (7, (.tup [])), (6, (.ptr 1000000 0)), (5, .top), (4, (vI 0)), (0, (.ptr 1000000 0)), (1, (vS p1))], [(1000000, [(.bp 1000000 39), (.d (.sl 1 (c0_1.map cU8)))])]⟩) h (by kernel_rfl) (by kernel_rfl) (by kernel_rfl) (by kernel_rfl) (fun y => by kernel_rfl) ?_
 clear h; intro y2 h
 let a3 : St := ⟨[(16, (.ptr 1000000 1)), (15, (.ptr 1000000 0)), (14, (.osl 14 5 1 (y2.map cU8))), (13, (vS p1)), (12, (.d (.sl 1 (c0_1.map cU8)))), (11, (.ptr 1000000 1)), (10, (.ptr 1000000 0)), (9, (.ptr 1000000 0)), (8, (.ptr 1000000 0)), (7, (.tup [])), (6, (.ptr 1000000 0)), (5, .top), (4, (vI 0)), (0, (.ptr 1000000 0)), (1, (vS p1))], [(1000000, [(.bp 1000000 39), (.osl 14 5 1 (y2.map cU8))])]⟩
 refine st 3 a3 (nx (so ?_))
 let a4 : St := a3.p [(5, .top), (4, (vI (ln p1))), (18, (vI (ln p1))), (17, (vS p1))]
 refine st 4 a4 (nx ?_)
 refine ret_wk (s' := ⟨[(4, (vI (ln p1))), (5, .top)], [(1000000, [(.bp 1000000 39), (.osl 6000001 5 1 (y2.map cU8))])]⟩) (wr [(6000001, .old 14)] (es (es er_nil)) (br_cons (c0 := [(.bp 1000000 39), (.osl 14 5 1 (y2.map cU8))]) (by kernel_rfl) (vrs_cons (vr_same (by kernel_rfl) (by kernel_rfl)) (vrs_cons (vr_old (t := 14) (by kernel_rfl) (by kernel_rfl)) (vrs_nil))) br_nil)) ?_
 injection h with h; subst h
 exact retn_step (vs := [(vI (ln p1)), .top]) (by kernel_rfl) ⟨by kernel_rfl, by kernel_rfl, trivial⟩
theorem OK_gStrconv_Itoa (p0 : Int) : FOk Tryd.prog 29 [(vI p0)] (fun y => (vS y)) (gStrconv_Itoa p0) := by
 intro r h
 rw [gStrconv_Itoa] at h
 injection h with h
 subst h
 exact acalls_itoa (ρ := sh171_ren) sh171 (by kernel_rfl) (by kernel_rfl) (.head _) p0
theorem OK_iDigits (p0 : Int) : FOk Tryd.prog 23 [(vI p0)] (fun y => (vS y)) (iDigits p0) := by
 intro r h
 rw [iDigits] at h
 refine aof triDigits ?_
 show avc Tryd.prog aciDigits (qiDigits _) ⟨[(0, (vI p0))], []⟩
 delta aciDigits
 refine so ?_
 let a0 : St := ⟨[(2, (vS [])), (0, (vI p0))], []⟩
 refine st 1 a0 (nx (so ?_))
 let a1 : St := a0.p [(3, (vI p0))]
 refine st 1 a1 (cs h (OK_gStrconv_Itoa p0) fun y1 h => ?_)
 let a2 : St := a1.p [(2, (vS y1)), (4, (vS y1))]
 refine st 1 a2 (nx (ri ?_))
 injection h with h; subst h
 exact r1 (v := (vS y1))
theorem OK_gStrings_ReplaceAll (p0 : (List UInt8)) (p1 : (List UInt8)) (p2 : (List UInt8)) : FOk Tryd.prog 32 [(vS p0), (vS p1), (vS p2)] (fun y => (vS y)) (gStrings_ReplaceAll p0 p1 p2) := by
 intro r h
 rw [gStrings_ReplaceAll] at h
 exact acalls_repl (ρ := sh155_ren) sh155 sh155_X (by kernel_rfl) (by kernel_rfl) (.tail _ (.head _)) p0 p1 p2 r h
theorem OK_iQuoted (p0 : (List UInt8)) (p1 : (List UInt8)) : FOk Tryd.prog 30 [(vS p0), (vS p1)] (fun y => (vS y)) (iQuoted p0 p1) := by
 intro r h
 rw [iQuoted] at h
 refine aof triQuoted ?_
 show avc Tryd.prog aciQuoted (qiQuoted _) ⟨[(0, (vS p0)), (1, (vS p1))], []⟩
 delta aciQuoted
 refine so ?_
 let a0 : St := ⟨[(4, (vS [])), (0, (vS p0)), (1, (vS p1))], []⟩
 refine st 1 a0 (nx (so ?_))
 let a1 : St := a0.p [(9, (vS p1)), (8, (vS p1)), (7, (vS p1)), (6, (vS p0)), (5, (vS p1))]
 refine st 5 a1 (vs (fun (y : (List UInt8)) => (vS y)) h (fun y hy => vop_cat (a := p1) (b := p1) hy (by kernel_rfl) (by kernel_rfl) (by kernel_rfl)) fun y1 h => (cs h (OK_gStrings_ReplaceAll p0 p1 y1) fun y2 h => (vs (fun (y : (List UInt8)) => (vS y)) h (fun y hy => vop_cat (a := p1) (b := y2) hy (by kernel_rfl) (by kernel_rfl) (by kernel_rfl)) fun y3 h => ?_)))
 let a2 : St := a1.p [(13, (vS p1)), (12, (vS y3)), (11, (vS y2)), (10, (vS y1))]
 refine st 1 a2 (vs (fun (y : (List UInt8)) => (vS y)) h (fun y hy => vop_cat (a := y3) (b := p1) hy (by kernel_rfl) (by kernel_rfl) (by kernel_rfl)) fun y4 h => ?_)
 let a3 : St := a2.p [(4, (vS y4)), (14, (vS y4))]
 refine st 1 a3 (nx (ri ?_))
 injection h with h; subst h
 exact r1 (v := (vS y4))
theorem OK_iQuoteText (p0 : (List UInt8)) : FOk Tryd.prog 24 [(vS p0)] (fun y => (vS y)) (iQuoteText p0) := by
 intro r h
 rw [iQuoteText] at h
 refine aof triQuoteText ?_
 show avc Tryd.prog aciQuoteText (qiQuoteText _) ⟨[(0, (vS p0))], []⟩
 delta aciQuoteText
 refine so ?_
 let a0 : St := ⟨[(2, (vS [])), (0, (vS p0))], []⟩
 refine st 1 a0 (nx (so ?_))
 let a1 : St := a0.p [(3, (vS p0))]
 refine st 1 a1 (cs h (OK_iQuoted p0 [39]) fun y1 h => ?_)
 let a2 : St := a1.p [(2, (vS y1)), (4, (vS y1))]
 refine st 1 a2 (nx (ri ?_))
 injection h with h; subst h
 exact r1 (v := (vS y1))
theorem OK_iValueOk (p0 : GValue) : FOk Tryd.prog 22 [(vGValue p0)] (fun y => (vB y)) (iValueOk p0) := by
 intro r h
 rw [iValueOk] at h
 refine aof triValueOk ?_
 show avc Tryd.prog aciValueOk (qiValueOk _) ⟨[(0, (vGValue p0))], []⟩
 delta aciValueOk
 refine so ?_
 let a0 : St := ⟨[(2, (vB false)), (1, (.ptr 1 0)), (0, (vGValue p0))], [(1, bGValue p0)]⟩
 refine st 2 a0 (nx (si (so ?_)))
 let a1 : St := a0.p [(4, (vI p0.kind)), (3, (.ptr 1 0))]
 refine st 2 a1 (nx (bi (so ?_)))
 let a2 : St := a1.p [(5, (vB (decide (p0.kind = 0)))), (6, (vB (decide (p0.kind = 0))))]
 refine st 2 a2 (nx ?_)
 refine cd h (fun h => ?_) fun h => ?_
 refine so ?_
 let a3 : St := a2.p [(10, (vB (decide (p0.num = 0)))), (9, (vB (decide (p0.num = 0)))), (8, (vI p0.num)), (7, (.ptr 1 1))]
 refine st 4 a3 (gp true (decide (p0.num = 0)) (.ptr 1 2) (fun hc => vl) (gp true (decide (p0.num = 0)) (vS p0.text) (fun hc => vg hc) (gp true (decide (p0.num = 0)) (vB (decide (p0.text = []))) (fun hc => vg hc) ?_)))
 refine vs (fun (y : Bool) => (vB y)) h (fun y hy => vop_pickV hy (p := (true && ((decide (p0.num = 0)) == true))) (q := true) (by kernel_rfl) (by kernel_rfl) (by kernel_rfl) (by kernel_rfl) (fun hb => gc_t rfl hb) (fun _ => rfl)) fun y1 h => ?_
 let a4 : St := a3.p [(2, (vB y1)), (14, (vB y1)), (13, (.ite (true && ((decide (p0.num = 0)) == true)) (vB (decide (p0.text = []))))), (12, (.ite (true && ((decide (p0.num = 0)) == true)) (vS p0.text))), (11, (.ite (true && ((decide (p0.num = 0)) == true)) (.ptr 1 2)))]
 refine st 1 a4 (nx (ri (br (tr ?_))))
 injection h with h; subst h
 exact r1 (v := (vB y1))
 refine so ?_
 let a5 : St := a2.p [(15, (vB (decide (p0.kind = 1)))), (16, (vB (decide (p0.kind = 1))))]
 refine st 2 a5 (nx ?_)
 refine cd h (fun h => ?_) fun h => ?_
 refine so ?_
 let a6 : St := a5.p [(2, (vB (decide (p0.text = [])))), (19, (vB (decide (p0.text = [])))), (18, (vS p0.text)), (17, (.ptr 1 2))]
 refine st 4 a6 (nx (ri (br (tr ?_))))
 injection h with h; subst h
 exact r1 (v := (vB (decide (p0.text = []))))
 refine so ?_
 let a7 : St := a5.p [(20, (vB (decide (p0.kind = 2)))), (21, (vB (decide (p0.kind = 2))))]
 refine st 2 a7 (nx ?_)
 refine cd h (fun h => ?_) fun h => ?_
 refine so ?_
 let a8 : St := a7.p [(25, (vB (decide (p0.num = 0)))), (24, (vB (decide (p0.num = 0)))), (23, (vI p0.num)), (22, (.ptr 1 1))]
 refine st 4 a8 (gp true (decide (p0.num = 0)) (.ptr 1 2) (fun hc => vl) (gp true (decide (p0.num = 0)) (vS p0.text) (fun hc => vg hc) (gp true (decide (p0.num = 0)) (vI (ln p0.text)) (fun hc => vg hc) (gp true (decide (p0.num = 0)) (vB (decide ((ln p0.text) ≤ 200))) (fun hc => vg hc) ?_))))
 refine vs (fun (y : Bool) => (vB y)) h (fun y hy => vop_pickV hy (p := (true && ((decide (p0.num = 0)) == true))) (q := true) (by kernel_rfl) (by kernel_rfl) (by kernel_rfl) (by kernel_rfl) (fun hb => gc_t rfl hb) (fun _ => rfl)) fun y2 h => ?_
 let a9 : St := a8.p [(2, (vB y2)), (30, (vB y2)), (29, (.ite (true && ((decide (p0.num = 0)) == true)) (vB (decide ((ln p0.text) ≤ 200))))), (28, (.ite (true && ((decide (p0.num = 0)) == true)) (vI (ln p0.text)))), (27, (.ite (true && ((decide (p0.num = 0)) == true)) (vS p0.text))), (26, (.ite (true && ((decide (p0.num = 0)) == true)) (.ptr 1 2)))]
 refine st 1 a9 (nx (ri (br (tr ?_))))
 injection h with h; subst h
 exact r1 (v := (vB y2))
 refine so ?_
 let a10 : St := a7.p [(31, (vB (decide (p0.kind = 3)))), (32, (vB (decide (p0.kind = 3))))]
 refine st 2 a10 (nx ?_)
 refine cd h (fun h => ?_) fun h => ?_
 refine so ?_
 let a11 : St := a10.p [(36, (vB (decide (p0.num = 0)))), (35, (vB (decide (p0.num = 0)))), (34, (vI p0.num)), (33, (.ptr 1 1))]
 refine st 4 a11 (gp true (decide (p0.num = 0)) (.ptr 1 1) (fun hc => vl) (gp true (decide (p0.num = 0)) (vI p0.num) (fun hc => vg hc) (gp true (decide (p0.num = 0)) (vB (decide (p0.num = 1))) (fun hc => vg hc) ?_)))
 refine vs (fun (y : Bool) => (vB y)) h (fun y hy => vop_pickV hy (p := true) (q := (true && ((decide (p0.num = 0)) == false))) (by kernel_rfl) (by kernel_rfl) (by kernel_rfl) (by kernel_rfl) (fun _ => rfl) (fun hb => gc_f rfl hb)) fun y3 h => ?_
 let a12 : St := a11.p [(41, (vB y3)), (40, (vB y3)), (39, (.ite (true && ((decide (p0.num = 0)) == false)) (vB (decide (p0.num = 1))))), (38, (.ite (true && ((decide (p0.num = 0)) == false)) (vI p0.num))), (37, (.ite (true && ((decide (p0.num = 0)) == false)) (.ptr 1 1)))]
 refine st 1 a12 (gp true y3 (.ptr 1 2) (fun hc => vl) (gp true y3 (vS p0.text) (fun hc => vg hc) (gp true y3 (vB (decide (p0.text = []))) (fun hc => vg hc) (vs (fun (y : Bool) => (vB y)) h (fun y hy => vop_pickV hy (p := (true && (y3 == true))) (q := true) (by kernel_rfl) (by kernel_rfl) (by kernel_rfl) (by kernel_rfl) (fun hb => gc_t rfl hb) (fun _ => rfl)) fun y4 h => ?_))))
 let a13 : St := a12.p [(2, (vB y4)), (45, (vB y4)), (44, (.ite (gT y3) (vB (decide (p0.text = []))))), (43, (.ite (gT y3) (vS p0.text))), (42, (.ite (gT y3) (.ptr 1 2)))]
 refine st 1 a13 (nx (ri (br (tr ?_))))
 injection h with h; subst h
 exact r1 (v := (vB y4))
 refine ki (bn (xi (so ?_)))
 let a14 : St := a10.p [(2, (vB false))]
 refine st 1 a14 (nx (ri ?_))
 injection h with h; subst h
 exact r1 (v := (vB false))
theorem OK_iValueText (p0 : GValue) : FOk Tryd.prog 13 [(vGValue p0)] (fun y => (vS y)) (iValueText p0) := by
 intro r h
 rw [iValueText] at h
 refine aof triValueText ?_
 show avc Tryd.prog aciValueText (qiValueText _) ⟨[(0, (vGValue p0))], []⟩
 delta aciValueText
 refine so ?_
 let a0 : St := ⟨[(2, (vS [])), (1, (.ptr 1 0)), (0, (vGValue p0))], [(1, bGValue p0)]⟩
 refine st 2 a0 (nx (si (so ?_)))
 let a1 : St := a0.p [(3, (vGValue p0))]
 refine st 1 a1 (cs h (OK_iValueOk p0) fun y1 h => ?_)
 let a2 : St := a1.p [(5, (vB (!y1))), (4, (vB y1))]
 refine st 1 a2 (nx ?_)
 refine cd h (fun h => ?_) fun h => ?_
 refine so ?_
 let a3 : St := a2.p [(2, (vS [63]))]
 refine st 1 a3 (nx (ri (tr ?_)))
 injection h with h; subst h
 exact r1 (v := (vS [63]))
 refine ki (xi (si (so ?_)))
 let a4 : St := a2.p [(7, (vI p0.kind)), (6, (.ptr 1 0))]
 refine st 2 a4 (nx (bi (so ?_)))
 let a5 : St := a4.p [(8, (vB (decide (p0.kind = 1)))), (9, (vB (decide (p0.kind = 1))))]
 refine st 2 a5 (nx ?_)
 refine cd h (fun h => ?_) fun h => ?_
 refine so ?_
 let a6 : St := a5.p [(11, (vI p0.num)), (10, (.ptr 1 1))]
 refine st 2 a6 (cs h (OK_iDigits p0.num) fun y2 h => ?_)
 let a7 : St := a6.p [(2, (vS y2)), (12, (vS y2))]
 refine st 1 a7 (nx (ri (br (tr ?_))))
 injection h with h; subst h
 exact r1 (v := (vS y2))
 refine so ?_
 let a8 : St := a5.p [(13, (vB (decide (p0.kind = 2)))), (14, (vB (decide (p0.kind = 2))))]
 refine st 2 a8 (nx ?_)
 refine cd h (fun h => ?_) fun h => ?_
 refine so ?_
 let a9 : St := a8.p [(16, (vS p0.text)), (15, (.ptr 1 2))]
 refine st 2 a9 (cs h (OK_iQuoteText p0.text) fun y3 h => ?_)
 let a10 : St := a9.p [(2, (vS y3)), (17, (vS y3))]
 refine st 1 a10 (nx (ri (br (tr ?_))))
 injection h with h; subst h
 exact r1 (v := (vS y3))
 refine so ?_
 let a11 : St := a8.p [(18, (vB (decide (p0.kind = 3)))), (19, (vB (decide (p0.kind = 3))))]
 refine st 2 a11 (nx ?_)
 refine cd h (fun h => ?_) fun h => ?_
 refine si (so ?_)
 let a12 : St := a11.p [(22, (vB (decide (p0.num = 1)))), (21, (vI p0.num)), (20, (.ptr 1 1))]
 refine st 3 a12 (nx ?_)
 refine cd h (fun h => ?_) fun h => ?_
 refine so ?_
 let a13 : St := a12.p [(2, (vS [84, 82, 85, 69]))]
 refine st 1 a13 (nx (ri (tr (br (tr ?_)))))
 injection h with h; subst h
 exact r1 (v := (vS [84, 82, 85, 69]))
 refine ki (xi (so ?_))
 let a14 : St := a12.p [(2, (vS [70, 65, 76, 83, 69]))]
 refine st 1 a14 (nx (ri (br (tr ?_))))
 injection h with h; subst h
 exact r1 (v := (vS [70, 65, 76, 83, 69]))
 refine ki (bn (xi (so ?_)))
 let a15 : St := a11.p [(2, (vS [78, 85, 76, 76]))]
 refine st 1 a15 (nx (ri ?_))
 injection h with h; subst h
 exact r1 (v := (vS [78, 85, 76, 76]))
theorem OKs_iRowsText_J2 (p0 : (List (List GValue))) : (∀ (x11 : Int) (y1 : (List GValue)) (x17 : Int) (y4 : GValue) (b3_1_6 : (List Int)) (r : (List UInt8)), iRowsText_J2 p0 x11 y1 x17 y4 b3_1_6 = some r → avc Tryd.prog aciRowsText_J2 (qiRowsText_9 r) (stiRowsText_J2 p0 x11 y1 x17 y4 b3_1_6)) ∧ (∀ (x11 : Int) (y1 : (List GValue)) (x17 : Int) (b3_1_2 : (List Int)) (r : (List UInt8)), iRowsText_L1 p0 x11 y1 x17 b3_1_2 = some r → avc Tryd.prog aciRowsText_L1 (qiRowsText_6 r) (stiRowsText_L1 p0 x11 y1 x17 b3_1_2)) ∧ (∀ (x11 : Int) (b3_1 : (List Int)) (r : (List UInt8)), iRowsText_L0 p0 x11 b3_1 = some r → avc Tryd.prog aciRowsText_L0 (qiRowsText_1 r) (stiRowsText_L0 p0 x11 b3_1)) := by
 refine iRowsText_J2.mutual_partial_correctness p0 (fun x11 y1 x17 y4 b3_1_6 r => avc Tryd.prog aciRowsText_J2 (qiRowsText_9 r) (stiRowsText_J2 p0 x11 y1 x17 y4 b3_1_6)) (fun x11 y1 x17 b3_1_2 r => avc Tryd.prog aciRowsText_L1 (qiRowsText_6 r) (stiRowsText_L1 p0 x11 y1 x17 b3_1_2)) (fun x11 b3_1 r => avc Tryd.prog aciRowsText_L0 (qiRowsText_1 r) (stiRowsText_L0 p0 x11 b3_1)) ?_ ?_ ?_
 · intro F_iRowsText_L1 OK_iRowsText_L1 x11 y1 x17 y4 b3_1_6 r h
   delta aciRowsText_J2
   refine oi ?_
   let a14 : St := (stiRowsText_J2 p0 x11 y1 x17 y4 b3_1_6).p [(25, (vGValue y4))]
   refine st 1 a14 (cs h (OK_iValueText y4) fun y8 h => ?_)
   refine callg_step ⟨[(1000000, 3)], [(6000001, 5062501)], [], [], [], [(6000001, 5062501)], [], [5062501], []⟩ (m := gStrings_Builder_WriteString_x b3_1_6 y8) (S' := fun (y : Int × (List Int)) => ⟨(27, (.tup [(vI y.1), .top])) :: (26, (vS y8)) :: a14.env, [(3, [(.bp 3 39), (.osl 5062501 5 1 (y.2.map cU8))]), (7, bGValue y4)]⟩) h (OK_gStrings_Builder_WriteString_x b3_1_6 y8) (by kernel_rfl) (by kernel_rfl) (by kernel_rfl) (by kernel_rfl) (fun y => by kernel_rfl) (fun y => by kernel_rfl) ?_
   clear h; intro y9 h
   refine ni (bn (xi (oi ?_)))
   let a15 : St := ⟨(17, (vI (IntKind.wrap .i64 (x17 + 1)))) :: (28, (vI (IntKind.wrap .i64 (x17 + 1)))) :: (27, (.tup [(vI y9.1), .top])) :: (26, (vS y8)) :: a14.env, [(3, [(.bp 3 39), (.osl 5062501 5 1 (y9.2.map cU8))]), (7, bGValue y4)]⟩
   refine st 2 a15 (ni ?_)
   exact loop_back (s' := stiRowsText_L1 p0 x11 y1 (IntKind.wrap .i64 (x17 + 1)) y9.2) (wr [(5072501, .old 5062501)] (es (es (es (es (es (es (es er_nil))))))) (br_cons (c0 := [(.bp 3 39), (.osl 5062501 5 1 (y9.2.map cU8))]) (by kernel_rfl) (vrs_cons (vr_same (by kernel_rfl) (by kernel_rfl)) (vrs_cons (vr_old (t := 5062501) (by kernel_rfl) (by kernel_rfl)) (vrs_nil))) br_nil)) (OK_iRowsText_L1 x11 y1 (IntKind.wrap .i64 (x17 + 1)) y9.2 _ h)
 · intro F_iRowsText_J2 F_iRowsText_L0 OK_iRowsText_J2 OK_iRowsText_L0 x11 y1 x17 b3_1_2 r h
   delta aciRowsText_L1
   refine loop_unroll (so ?_)
   let a9 : St := (stiRowsText_L1 p0 x11 y1 x17 b3_1_2).p [(18, (vB (decide (x17 < (ln y1)))))]
   refine st 1 a9 (nx (si ?_))
   refine cd h (fun h => ?_) fun h => ?_
   refine ki (xi (si (bi (so ?_))))
   let a10 : St := a9.p [(19, (vI x17))]
   refine st 1 a10 (vs (fun (y : GValue) => (.rp (cGValue y))) h (fun y hy => via (l := y1) (f := cGValue) (g := cGValue) (k := .i64) hy (fun _ => rfl)) fun y4 h => ?_)
   let a11 : St := ⟨(6, (vI x17)) :: (7, (.ptr 7 0)) :: (21, (vGValue y4)) :: (20, (.rp (cGValue y4))) :: a10.env, [(7, bGValue y4), (3, [(.bp 3 39), (.osl 5072501 5 1 (b3_1_2.map cU8))])]⟩
   refine st 4 a11 (nx (si (so ?_)))
   let a12 : St := a11.p [(23, (vB (decide (0 < x17)))), (22, (vI x17))]
   refine st 2 a12 (nx ?_)
   refine cd h (fun h => ?_) fun h => ?_
   refine oi ?_
   refine callg_step ⟨[(1000000, 3)], [(6000001, 5072501)], [], [], [], [(6000001, 5072501)], [], [5072501], []⟩ (m := gStrings_Builder_WriteString_x b3_1_2 [124]) (S' := fun (y : Int × (List Int)) => ⟨(24, (.tup [(vI y.1), .top])) :: a12.env, [(7, bGValue y4), (3, [(.bp 3 39), (.osl 5072501 5 1 (y.2.map cU8))])]⟩) h (OK_gStrings_Builder_WriteString_x b3_1_2 [124]) (by kernel_rfl) (by kernel_rfl) (by kernel_rfl) (by kernel_rfl) (fun y => by kernel_rfl) (fun y => by kernel_rfl) ?_
   clear h; intro y5 h
   refine ni ?_
   exact next_step (s' := stiRowsText_J2 p0 x11 y1 x17 y4 y5.2) (wr [(5062501, .old 5072501)] (es (es (es (es (es (es (es (es er_nil)))))))) (br_cons (c0 := [(.bp 3 39), (.osl 5072501 5 1 (y5.2.map cU8))]) (by kernel_rfl) (vrs_cons (vr_same (by kernel_rfl) (by kernel_rfl)) (vrs_cons (vr_old (t := 5072501) (by kernel_rfl) (by kernel_rfl)) (vrs_nil))) (bs_ br_nil))) (OK_iRowsText_J2 x11 y1 x17 y4 y5.2 _ h)
   refine ki ?_
   exact next_step (s' := stiRowsText_J2 p0 x11 y1 x17 y4 b3_1_2) (wr [(5062501, .old 5072501)] (es (es (es (es (es (es (es (es er_nil)))))))) (br_cons (c0 := [(.bp 3 39), (.osl 5072501 5 1 (b3_1_2.map cU8))]) (by kernel_rfl) (vrs_cons (vr_same (by kernel_rfl) (by kernel_rfl)) (vrs_cons (vr_old (t := 5072501) (by kernel_rfl) (by kernel_rfl)) (vrs_nil))) (bs_ br_nil))) (OK_iRowsText_J2 x11 y1 x17 y4 b3_1_2 _ h)
   refine ei (te (te (bh (xi (oi ?_)))))
   refine callg_step ⟨[(1000000, 3)], [(6000001, 5072501)], [], [], [], [(6000001, 5072501)], [], [5072501], []⟩ (m := gStrings_Builder_WriteString_x b3_1_2 [10]) (S' := fun (y : Int × (List Int)) => ⟨(29, (.tup [(vI y.1), .top])) :: a9.env, [(3, [(.bp 3 39), (.osl 5072501 5 1 (y.2.map cU8))])]⟩) h (OK_gStrings_Builder_WriteString_x b3_1_2 [10]) (by kernel_rfl) (by kernel_rfl) (by kernel_rfl) (by kernel_rfl) (fun y => by kernel_rfl) (fun y => by kernel_rfl) ?_
   clear h; intro y7 h
   refine ni (bn (xi (oi ?_)))
   let a13 : St := ⟨(11, (vI (IntKind.wrap .i64 (x11 + 1)))) :: (30, (vI (IntKind.wrap .i64 (x11 + 1)))) :: (29, (.tup [(vI y7.1), .top])) :: a9.env, [(3, [(.bp 3 39), (.osl 5072501 5 1 (y7.2.map cU8))])]⟩
   refine st 2 a13 (ni ?_)
   exact loop_back (s' := stiRowsText_L0 p0 (IntKind.wrap .i64 (x11 + 1)) y7.2) (wr [(5072501, .old 5072501)] (es (es (es (es er_nil)))) (br_cons (c0 := [(.bp 3 39), (.osl 5072501 5 1 (y7.2.map cU8))]) (by kernel_rfl) (vrs_cons (vr_same (by kernel_rfl) (by kernel_rfl)) (vrs_cons (vr_old (t := 5072501) (by kernel_rfl) (by kernel_rfl)) (vrs_nil))) br_nil)) (OK_iRowsText_L0 (IntKind.wrap .i64 (x11 + 1)) y7.2 _ h)
 · intro F_iRowsText_L1 OK_iRowsText_L1 x11 b3_1 r h
   delta aciRowsText_L0
   refine loop_unroll (so ?_)
   let a4 : St := (stiRowsText_L0 p0 x11 b3_1).p [(12, (vB (decide (x11 < (ln p0)))))]
   refine st 1 a4 (nx (si ?_))
   refine cd h (fun h => ?_) fun h => ?_
   refine ki (xi (si (bi (so (vs (fun (y : (List GValue)) => (.rp [(.sl 3 (y.map cGValue))])) h (fun y hy => via (l := p0) (f := (cSl 3 cGValue)) (g := (cSl 3 cGValue)) (k := .i64) hy (fun _ => rfl)) fun y1 h => ?_)))))
   let a5 : St := a4.p [(5, (.d (.sl 3 (y1.map cGValue)))), (14, (.d (.sl 3 (y1.map cGValue)))), (13, (.rp [(.sl 3 (y1.map cGValue))]))]
   refine st 2 a5 (nx (si (so ?_)))
   let a6 : St := a5.p [(15, (.d (.sl 3 (y1.map cGValue))))]
   refine st 1 a6 (ps (vI (ln y1)) (vln (sz := 3) (l := y1) (f := cGValue)) ?_)
   let a7 : St := a6.p [(17, (vI 0)), (16, (vI (ln y1)))]
   refine st 1 a7 (nx (bi ?_))
   exact loop_go (s' := stiRowsText_L1 p0 x11 y1 0 b3_1) (wr [(5072501, .old 5072501)] (es (es (es (es (es (es (es er_nil))))))) (br_cons (c0 := [(.bp 3 39), (.osl 5072501 5 1 (b3_1.map cU8))]) (by kernel_rfl) (vrs_cons (vr_same (by kernel_rfl) (by kernel_rfl)) (vrs_cons (vr_old (t := 5072501) (by kernel_rfl) (by kernel_rfl)) (vrs_nil))) br_nil)) (OK_iRowsText_L1 x11 y1 0 b3_1 _ h)
   refine ei (te (te (bh (xi (so ?_)))))
   refine callg_step ⟨[(1000000, 3)], [(6000001, 5072501)], [], [], [], [], [], [5072501], []⟩ (m := gStrings_Builder_String_x b3_1) (S' := fun (y : (List UInt8) × (List Int)) => ⟨(31, (vS y.1)) :: a4.env, [(3, [(.bp 3 39), (.d (.sl 1 (y.2.map cU8)))])]⟩) h (OK_gStrings_Builder_String_x b3_1) (by kernel_rfl) (by kernel_rfl) (by kernel_rfl) (by kernel_rfl) (fun y => by kernel_rfl) (fun y => by kernel_rfl) ?_
   clear h; intro y3 h
   let a8 : St := ⟨(2, (vS y3.1)) :: (31, (vS y3.1)) :: a4.env, [(3, [(.bp 3 39), (.d (.sl 1 (y3.2.map cU8)))])]⟩
   refine st 1 a8 (nx (ri ?_))
   injection h with h; subst h
   exact r1 (v := (vS y3.1))
theorem OK_iRowsText_J2 (p0 : (List (List GValue))) (x11 : Int) (y1 : (List GValue)) (x17 : Int) (y4 : GValue) (b3_1_6 : (List Int)) (r : (List UInt8)) (h : iRowsText_J2 p0 x11 y1 x17 y4 b3_1_6 = some r) : avc Tryd.prog aciRowsText_J2 (qiRowsText_9 r) (stiRowsText_J2 p0 x11 y1 x17 y4 b3_1_6) := (OKs_iRowsText_J2 p0).1 x11 y1 x17 y4 b3_1_6 r h
theorem OK_iRowsText_L1 (p0 : (List (List GValue))) (x11 : Int) (y1 : (List GValue)) (x17 : Int) (b3_1_2 : (List Int)) (r : (List UInt8)) (h : iRowsText_L1 p0 x11 y1 x17 b3_1_2 = some r) : avc Tryd.prog aciRowsText_L1 (qiRowsText_6 r) (stiRowsText_L1 p0 x11 y1 x17 b3_1_2) := (OKs_iRowsText_J2 p0).2.1 x11 y1 x17 b3_1_2 r h
theorem OK_iRowsText_L0 (p0 : (List (List GValue))) (x11 : Int) (b3_1 : (List Int)) (r : (List UInt8)) (h : iRowsText_L0 p0 x11 b3_1 = some r) : avc Tryd.prog aciRowsText_L0 (qiRowsText_1 r) (stiRowsText_L0 p0 x11 b3_1) := (OKs_iRowsText_J2 p0).2.2 x11 b3_1 r h
theorem OK_iRowsText (p0 : (List (List GValue))) : FOk Tryd.prog 7 [(.d (.sl 1 (p0.map (cSl 3 cGValue))))] (fun y => (vS y)) (iRowsText p0) := by
 intro r h
 rw [iRowsText] at h
 refine aof triRowsText ?_
 show avc Tryd.prog aciRowsText (qiRowsText _) ⟨[(0, (.d (.sl 1 (p0.map (cSl 3 cGValue)))))], []⟩
 delta aciRowsText
 refine so ?_
 let a0 : St := ⟨[(2, (vS [])), (0, (.d (.sl 1 (p0.map (cSl 3 cGValue)))))], []⟩
 refine st 1 a0 (nx (so (bldv_step (c := [.np, (.nil 1)]) (s' := ⟨(8, (.agv [.np, (.nil 1)])) :: a0.env, a0.bx⟩) (by kernel_rfl) (by kernel_rfl) (by kernel_rfl) ?_)))
 let a1 : St := ⟨(3, (.ptr 3 0)) :: (8, (.agv [.np, (.nil 1)])) :: a0.env, [(3, [(.bp 3 39), (.nil 1)])]⟩
 refine st 2 a1 (nx (si (so ?_)))
 let a2 : St := a1.p [(9, (.d (.sl 1 (p0.map (cSl 3 cGValue)))))]
 refine st 1 a2 (ps (vI (ln p0)) (vln (sz := 1) (l := p0) (f := (cSl 3 cGValue))) ?_)
 let a3 : St := a2.p [(11, (vI 0)), (10, (vI (ln p0)))]
 exact st 1 a3 (nx (bi (loop_go (s' := stiRowsText_L0 p0 0 ([] : List Int)) (wr [(5072501, .new 5 1)] (es (es (es (es er_nil)))) (br_cons (c0 := [(.bp 3 39), (.nil 1)]) (by kernel_rfl) (vrs_cons (vr_same (by kernel_rfl) (by kernel_rfl)) (vrs_cons (vr_new (by kernel_rfl) (by kernel_rfl)) (vrs_nil))) br_nil)) (OK_iRowsText_L0 p0 0 ([] : List Int) _ h))))
theorem OKs_sDigits_J1 (p0 : Int) : (∀ (x0 : Int) (x4 : (List UInt8)) (x5 : Int) (r : (List UInt8)), sDigits_J1 x0 p0 x4 x5 = some r → avc Tryd.prog acsDigits_J1 (qsDigits_3 r) (stsDigits_J1 x0 p0 x4 x5)) ∧ (∀ (x0 : Int) (x4 : (List UInt8)) (r : (List UInt8)), sDigits_L0 p0 x0 x4 = some r → avc Tryd.prog acsDigits_L0 (qsDigits_1 r) (stsDigits_L0 p0 x0 x4)) := by
 refine sDigits_J1.mutual_partial_correctness p0 (fun x0 x4 x5 r => avc Tryd.prog acsDigits_J1 (qsDigits_3 r) (stsDigits_J1 x0 p0 x4 x5)) (fun x0 x4 r => avc Tryd.prog acsDigits_L0 (qsDigits_1 r) (stsDigits_L0 p0 x0 x4)) ?_ ?_
 · intro F_sDigits_L0 OK_sDigits_L0 x0 x4 x5 r h
   delta acsDigits_J1
   refine so ?_
   let a13 : St := (stsDigits_J1 x0 p0 x4 x5).p [(20, (.d (.i .u8 (IntKind.wrap .u8 (IntKind.wrap .i64 (48 + x5)))))), (19, (vI (IntKind.wrap .i64 (48 + x5)))), (18, (vI x5))]
   refine st 3 a13 (bsl_step (l := ([(IntKind.wrap .u8 (IntKind.wrap .i64 (48 + x5)))] : List Int)) (f := cU8) (g := cU8) (by kernel_rfl) (fun _ => rfl) (by kernel_rfl) (vs (fun (y : (List UInt8)) => (vS y)) h (fun y hy => vop_cbs (l := ([(IntKind.wrap .u8 (IntKind.wrap .i64 (48 + x5)))] : List Int)) hy (by kernel_rfl) (by kernel_rfl)) fun y2 h => ?_))
   let a14 : St := a13.p [(23, (vS x4)), (22, (vS y2)), (21, (.osl 21 5 1 (([(IntKind.wrap .u8 (IntKind.wrap .i64 (48 + x5)))] : List Int).map cU8)))]
   refine st 1 a14 (vs (fun (y : (List UInt8)) => (vS y)) h (fun y hy => vop_cat (a := y2) (b := x4) hy (by kernel_rfl) (by kernel_rfl) (by kernel_rfl)) fun y3 h => ?_)
   let a15 : St := a14.p [(4, (vS y3)), (24, (vS y3))]
   refine st 1 a15 (nx (oi ?_))
   let a16 : St := a15.p [(0, (vI (IntKind.wrap .i64 (Int.tdiv x0 10)))), (26, (vI (IntKind.wrap .i64 (Int.tdiv x0 10)))), (25, (vI x0))]
   exact st 3 a16 (ni (bn (loop_back (s' := stsDigits_L0 p0 (IntKind.wrap .i64 (Int.tdiv x0 10)) y3) (wr [] (es (es (es er_nil))) br_nil) (OK_sDigits_L0 (IntKind.wrap .i64 (Int.tdiv x0 10)) y3 _ h))))
 · intro F_sDigits_J1 OK_sDigits_J1 x0 x4 r h
   delta acsDigits_L0
   refine loop_unroll (si (so ?_))
   let a5 : St := (stsDigits_L0 p0 x0 x4).p [(11, (vB (!decide (x0 = 0)))), (10, (vI x0))]
   refine st 2 a5 (nx ?_)
   refine cd h (fun h => ?_) fun h => ?_
   refine ki (xi (bi (so ?_)))
   let a6 : St := a5.p [(5, (vI (Int.tmod x0 10))), (13, (vI (Int.tmod x0 10))), (12, (vI x0))]
   refine st 3 a6 (nx (si (so ?_)))
   let a7 : St := a6.p [(15, (vB (decide ((Int.tmod x0 10) < 0)))), (14, (vI (Int.tmod x0 10)))]
   refine st 2 a7 (nx ?_)
   refine cd h (fun h => ?_) fun h => ?_
   refine oi ?_
   let a8 : St := a7.p [(5, (vI (IntKind.wrap .i64 (0 - (Int.tmod x0 10))))), (17, (vI (IntKind.wrap .i64 (0 - (Int.tmod x0 10))))), (16, (vI (Int.tmod x0 10)))]
   exact st 3 a8 (ni (next_step (s' := stsDigits_J1 x0 p0 x4 (IntKind.wrap .i64 (0 - (Int.tmod x0 10)))) (wr [] (es (es (es (es er_nil)))) br_nil) (OK_sDigits_J1 x0 x4 (IntKind.wrap .i64 (0 - (Int.tmod x0 10))) _ h)))
   exact ki (next_step (s' := stsDigits_J1 x0 p0 x4 (Int.tmod x0 10)) (wr [] (es (es (es (es er_nil)))) br_nil) (OK_sDigits_J1 x0 x4 (Int.tmod x0 10) _ h))
   refine ei (te (te (bh (xi (si (so ?_))))))
   let a9 : St := a5.p [(27, (vB (decide (p0 < 0))))]
   refine st 1 a9 (nx ?_)
   refine cd h (fun h => ?_) fun h => ?_
   refine so ?_
   let a10 : St := a9.p [(28, (vS x4))]
   refine st 1 a10 (vs (fun (y : (List UInt8)) => (vS y)) h (fun y hy => vop_cat (a := [45]) (b := x4) hy (by kernel_rfl) (by kernel_rfl) (by kernel_rfl)) fun y1 h => ?_)
   let a11 : St := a10.p [(2, (vS y1)), (29, (vS y1))]
   refine st 1 a11 (nx (ri (tr ?_)))
   injection h with h; subst h
   exact r1 (v := (vS y1))
   refine ki (xi (so ?_))
   let a12 : St := a9.p [(2, (vS x4)), (30, (vS x4))]
   refine st 2 a12 (nx (ri ?_))
   injection h with h; subst h
   exact r1 (v := (vS x4))
theorem OK_sDigits_J1 (x0 : Int) (p0 : Int) (x4 : (List UInt8)) (x5 : Int) (r : (List UInt8)) (h : sDigits_J1 x0 p0 x4 x5 = some r) : avc Tryd.prog acsDigits_J1 (qsDigits_3 r) (stsDigits_J1 x0 p0 x4 x5) := (OKs_sDigits_J1 p0).1 x0 x4 x5 r h
theorem OK_sDigits_L0 (p0 : Int) (x0 : Int) (x4 : (List UInt8)) (r : (List UInt8)) (h : sDigits_L0 p0 x0 x4 = some r) : avc Tryd.prog acsDigits_L0 (qsDigits_1 r) (stsDigits_L0 p0 x0 x4) := (OKs_sDigits_J1 p0).2 x0 x4 r h
theorem OK_sDigits (p0 : Int) : FOk Tryd.prog 18 [(vI p0)] (fun y => (vS y)) (sDigits p0) := by
 intro r h
 rw [sDigits] at h
 refine aof trsDigits ?_
 show avc Tryd.prog acsDigits (qsDigits _) ⟨[(0, (vI p0))], []⟩
 delta acsDigits
 refine so ?_
 let a0 : St := ⟨[(2, (vS [])), (0, (vI p0))], []⟩
 refine st 1 a0 (nx (si (so ?_)))
 let a1 : St := a0.p [(7, (vB (decide (p0 = 0)))), (6, (vI p0))]
 refine st 2 a1 (nx ?_)
 refine cd h (fun h => ?_) fun h => ?_
 refine so ?_
 let a2 : St := a1.p [(2, (vS [48]))]
 refine st 1 a2 (nx (ri (tr ?_)))
 injection h with h; subst h
 exact r1 (v := (vS [48]))
 refine ki (xi (so ?_))
 let a3 : St := a1.p [(3, (vB (decide (p0 < 0)))), (9, (vB (decide (p0 < 0)))), (8, (vI p0))]
 refine st 3 a3 (nx (so ?_))
 let a4 : St := a3.p [(4, (vS []))]
 exact st 1 a4 (nx (si (bi (loop_go (s' := stsDigits_L0 p0 p0 []) (wr [] (es (es (es er_nil))) br_nil) (OK_sDigits_L0 p0 p0 [] _ h)))))
theorem OKs_sL2Quote_J1 (p0 : (List UInt8)) (p1 : Int) : (∀ (x6 : Int) (x5_3 : (List Int)) (r : (List UInt8)), sL2Quote_J1 p0 p1 x6 x5_3 = some r → avc Tryd.prog acsL2Quote_J1 (qsL2Quote_4 r) (stsL2Quote_J1 p0 p1 x6 x5_3)) ∧ (∀ (x5 : (List Int)) (x6 : Int) (r : (List UInt8)), sL2Quote_L0 p0 p1 x5 x6 = some r → avc Tryd.prog acsL2Quote_L0 (qsL2Quote_1 r) (stsL2Quote_L0 p0 p1 x5 x6)) := by
 refine sL2Quote_J1.mutual_partial_correctness p0 p1 (fun x6 x5_3 r => avc Tryd.prog acsL2Quote_J1 (qsL2Quote_4 r) (stsL2Quote_J1 p0 p1 x6 x5_3)) (fun x5 x6 r => avc Tryd.prog acsL2Quote_L0 (qsL2Quote_1 r) (stsL2Quote_L0 p0 p1 x5 x6)) ?_ ?_
 · intro F_sL2Quote_L0 OK_sL2Quote_L0 x6 x5_3 r h
   delta acsL2Quote_J1
   refine oi ?_
   let a11 : St := (stsL2Quote_J1 p0 p1 x6 x5_3).p [(26, (vI x6)), (25, (vS p0)), (24, (.osl 5 5 1 (x5_3.map cU8)))]
   refine st 3 a11 (vs (fun (y : Int) => (.d (.i .u8 y))) h (fun y hy => vop_ix (b := p0) (k := .i64) hy (by kernel_rfl) (by kernel_rfl) (by kernel_rfl)) fun y6 h => (bsl_step (l := ([y6] : List Int)) (f := cU8) (g := cU8) (by kernel_rfl) (fun _ => rfl) (by kernel_rfl) ?_))
   refine app_step (t := 5) (l := x5_3) (m := ([y6] : List Int)) (f := cU8) (S' := fun y => ⟨[(29, (.osl 29 5 1 (y.map cU8))), (28, (.osl 28 5 1 (([y6] : List Int).map cU8))), (27, (.d (.i .u8 y6))), (26, (vI x6)), (25, (vS p0)), (24, (.d (.sl 1 (x5_3.map cU8)))), (0, (vS p0)), (1, (.d (.i .u8 p1))), (5, (.d (.sl 1 (x5_3.map cU8)))), (6, (vI x6))], []⟩) h (by kernel_rfl) (by kernel_rfl) (by kernel_rfl) (by kernel_rfl) (fun y => by kernel_rfl) ?_
   clear h; intro y7 h
   let a12 : St := ⟨[(5, (.osl 5 5 1 (y7.map cU8))), (29, (.d (.sl 1 (y7.map cU8)))), (28, (.osl 28 5 1 (([y6] : List Int).map cU8))), (27, (.d (.i .u8 y6))), (26, (vI x6)), (25, (vS p0)), (24, (.d (.sl 1 (x5_3.map cU8)))), (0, (vS p0)), (1, (.d (.i .u8 p1))), (5, (.d (.sl 1 (x5_3.map cU8)))), (6, (vI x6))], []⟩
   refine st 1 a12 (ni (bn (xi (oi ?_))))
   let a13 : St := a12.p [(6, (vI (IntKind.wrap .i64 (x6 + 1)))), (14, (vI (IntKind.wrap .i64 (x6 + 1)))), (13, (vI x6))]
   exact st 3 a13 (ni (loop_back (s' := stsL2Quote_L0 p0 p1 y7 (IntKind.wrap .i64 (x6 + 1))) (wr [(5, .old 5)] (es (es (eo 5 (es er_nil)))) br_nil) (OK_sL2Quote_L0 y7 (IntKind.wrap .i64 (x6 + 1)) _ h)))
 · intro F_sL2Quote_J1 OK_sL2Quote_J1 x5 x6 r h
   delta acsL2Quote_L0
   refine loop_unroll (si (so ?_))
   let a4 : St := (stsL2Quote_L0 p0 p1 x5 x6).p [(12, (vB (decide (x6 < (ln p0))))), (11, (vI (ln p0))), (10, (vS p0)), (9, (vI x6))]
   refine st 4 a4 (nx ?_)
   refine cd h (fun h => ?_) fun h => ?_
   refine ki (xi (si (bi (si (so ?_)))))
   let a5 : St := a4.p [(16, (vI x6)), (15, (vS p0))]
   refine st 2 a5 (vs (fun (y : Int) => (.d (.i .u8 y))) h (fun y hy => vop_ix (b := p0) (k := .i64) hy (by kernel_rfl) (by kernel_rfl) (by kernel_rfl)) fun y1 h => ?_)
   let a6 : St := a5.p [(19, (vB (decide (y1 = p1)))), (18, (.d (.i .u8 p1))), (17, (.d (.i .u8 y1)))]
   refine st 2 a6 (nx ?_)
   refine cd h (fun h => ?_) fun h => ?_
   refine oi ?_
   let a7 : St := a6.p [(21, (.d (.i .u8 p1))), (20, (.osl 5 5 1 (x5.map cU8)))]
   refine st 2 a7 (bsl_step (l := ([p1] : List Int)) (f := cU8) (g := cU8) (by kernel_rfl) (fun _ => rfl) (by kernel_rfl) ?_)
   refine app_step (t := 5) (l := x5) (m := ([p1] : List Int)) (f := cU8) (S' := fun y => ⟨[(23, (.osl 23 5 1 (y.map cU8))), (22, (.osl 22 5 1 (([p1] : List Int).map cU8))), (21, (.d (.i .u8 p1))), (20, (.d (.sl 1 (x5.map cU8)))), (19, (vB (decide (y1 = p1)))), (18, (.d (.i .u8 p1))), (17, (.d (.i .u8 y1))), (16, (vI x6)), (15, (vS p0)), (12, (vB (decide (x6 < (ln p0))))), (11, (vI (ln p0))), (10, (vS p0)), (9, (vI x6)), (0, (vS p0)), (1, (.d (.i .u8 p1))), (5, (.d (.sl 1 (x5.map cU8)))), (6, (vI x6))], []⟩) h (by kernel_rfl) (by kernel_rfl) (by kernel_rfl) (by kernel_rfl) (fun y => by kernel_rfl) ?_
   clear h; intro y2 h
   let a8 : St := ⟨[(5, (.osl 5 5 1 (y2.map cU8))), (23, (.d (.sl 1 (y2.map cU8)))), (22, (.osl 22 5 1 (([p1] : List Int).map cU8))), (21, (.d (.i .u8 p1))), (20, (.d (.sl 1 (x5.map cU8)))), (19, (vB (decide (y1 = p1)))), (18, (.d (.i .u8 p1))), (17, (.d (.i .u8 y1))), (16, (vI x6)), (15, (vS p0)), (12, (vB (decide (x6 < (ln p0))))), (11, (vI (ln p0))), (10, (vS p0)), (9, (vI x6)), (0, (vS p0)), (1, (.d (.i .u8 p1))), (5, (.d (.sl 1 (x5.map cU8)))), (6, (vI x6))], []⟩
   exact st 1 a8 (ni (next_step (s' := stsL2Quote_J1 p0 p1 x6 y2) (wr [(5, .old 5)] (es (es (eo 5 (es er_nil)))) br_nil) (OK_sL2Quote_J1 x6 y2 _ h)))
   exact ki (next_step (s' := stsL2Quote_J1 p0 p1 x6 x5) (wr [(5, .old 5)] (es (es (eo 5 (es er_nil)))) br_nil) (OK_sL2Quote_J1 x6 x5 _ h))
   refine ei (te (te (bh (xi (so ?_)))))
   let a9 : St := a4.p [(31, (.d (.i .u8 p1))), (30, (.osl 5 5 1 (x5.map cU8)))]
   refine st 2 a9 (bsl_step (l := ([p1] : List Int)) (f := cU8) (g := cU8) (by kernel_rfl) (fun _ => rfl) (by kernel_rfl) ?_)
   refine app_step (t := 5) (l := x5) (m := ([p1] : List Int)) (f := cU8) (S' := fun y => ⟨[(33, (.osl 33 5 1 (y.map cU8))), (32, (.osl 32 5 1 (([p1] : List Int).map cU8))), (31, (.d (.i .u8 p1))), (30, (.d (.sl 1 (x5.map cU8)))), (12, (vB (decide (x6 < (ln p0))))), (11, (vI (ln p0))), (10, (vS p0)), (9, (vI x6)), (0, (vS p0)), (1, (.d (.i .u8 p1))), (5, (.d (.sl 1 (x5.map cU8)))), (6, (vI x6))], []⟩) h (by kernel_rfl) (by kernel_rfl) (by kernel_rfl) (by kernel_rfl) (fun y => by kernel_rfl) ?_
   clear h; intro y4 h
   refine vs (fun (y : (List UInt8)) => (vS y)) h (fun y hy => vop_cbs (l := y4) hy (by kernel_rfl) (by kernel_rfl)) fun y5 h => ?_
   let a10 : St := ⟨[(4, (vS y5)), (34, (vS y5)), (33, (.osl 33 5 1 (y4.map cU8))), (32, (.osl 32 5 1 (([p1] : List Int).map cU8))), (31, (.d (.i .u8 p1))), (30, (.d (.sl 1 (x5.map cU8)))), (12, (vB (decide (x6 < (ln p0))))), (11, (vI (ln p0))), (10, (vS p0)), (9, (vI x6)), (0, (vS p0)), (1, (.d (.i .u8 p1))), (5, (.d (.sl 1 (x5.map cU8)))), (6, (vI x6))], []⟩
   refine st 1 a10 (nx (ri ?_))
   injection h with h; subst h
   exact r1 (v := (vS y5))
theorem OK_sL2Quote_J1 (p0 : (List UInt8)) (p1 : Int) (x6 : Int) (x5_3 : (List Int)) (r : (List UInt8)) (h : sL2Quote_J1 p0 p1 x6 x5_3 = some r) : avc Tryd.prog acsL2Quote_J1 (qsL2Quote_4 r) (stsL2Quote_J1 p0 p1 x6 x5_3) := (OKs_sL2Quote_J1 p0 p1).1 x6 x5_3 r h
theorem OK_sL2Quote_L0 (p0 : (List UInt8)) (p1 : Int) (x5 : (List Int)) (x6 : Int) (r : (List UInt8)) (h : sL2Quote_L0 p0 p1 x5 x6 = some r) : avc Tryd.prog acsL2Quote_L0 (qsL2Quote_1 r) (stsL2Quote_L0 p0 p1 x5 x6) := (OKs_sL2Quote_J1 p0 p1).2 x5 x6 r h
theorem OK_sL2Quote (p0 : (List UInt8)) (p1 : Int) : FOk Tryd.prog 27 [(vS p0), (.d (.i .u8 p1))] (fun y => (vS y)) (sL2Quote p0 p1) := by
 intro r h
 rw [sL2Quote] at h
 refine aof trsL2Quote ?_
 show avc Tryd.prog acsL2Quote (qsL2Quote _) ⟨[(0, (vS p0)), (1, (.d (.i .u8 p1)))], []⟩
 delta acsL2Quote
 refine so ?_
 let a0 : St := ⟨[(4, (vS [])), (0, (vS p0)), (1, (.d (.i .u8 p1)))], []⟩
 refine st 1 a0 (nx (so ?_))
 let a1 : St := a0.p [(7, (.d (.i .u8 p1)))]
 refine st 1 a1 (bsl_step (l := ([p1] : List Int)) (f := cU8) (g := cU8) (by kernel_rfl) (fun _ => rfl) (by kernel_rfl) ?_)
 let a2 : St := a1.p [(5, (.osl 5 5 1 (([p1] : List Int).map cU8))), (8, (.d (.sl 1 (([p1] : List Int).map cU8))))]
 refine st 1 a2 (nx (si (so ?_)))
 let a3 : St := a2.p [(6, (vI 0))]
 exact st 1 a3 (nx (bi (loop_go (s' := stsL2Quote_L0 p0 p1 ([p1] : List Int) 0) (wr [(5, .old 5)] (es (es (eo 5 (es er_nil)))) br_nil) (OK_sL2Quote_L0 p0 p1 ([p1] : List Int) 0 _ h))))
theorem OK_sQuoteText (p0 : (List UInt8)) : FOk Tryd.prog 19 [(vS p0)] (fun y => (vS y)) (sQuoteText p0) := by
 intro r h
 rw [sQuoteText] at h
 refine aof trsQuoteText ?_
 show avc Tryd.prog acsQuoteText (qsQuoteText _) ⟨[(0, (vS p0))], []⟩
 delta acsQuoteText
 refine so ?_
 let a0 : St := ⟨[(2, (vS [])), (0, (vS p0))], []⟩
 refine st 1 a0 (nx (so ?_))
 let a1 : St := a0.p [(3, (vS p0))]
 refine st 1 a1 (cs h (OK_sL2Quote p0 39) fun y1 h => ?_)
 let a2 : St := a1.p [(2, (vS y1)), (4, (vS y1))]
 refine st 1 a2 (nx (ri ?_))
 injection h with h; subst h
 exact r1 (v := (vS y1))
theorem OK_sL1In (p0 : Int) (p1 : Int) (p2 : Int) : FOk Tryd.prog 26 [(vI p0), (vI p1), (vI p2)] (fun y => (vB y)) (sL1In p0 p1 p2) := by
 intro r h
 rw [sL1In] at h
 refine aof trsL1In ?_
 show avc Tryd.prog acsL1In (qsL1In _) ⟨[(0, (vI p0)), (1, (vI p1)), (2, (vI p2))], []⟩
 delta acsL1In
 refine so ?_
 let a0 : St := ⟨[(6, (vB false)), (0, (vI p0)), (1, (vI p1)), (2, (vI p2))], []⟩
 refine st 1 a0 (nx (so ?_))
 let a1 : St := a0.p [(10, (vB (decide (p1 ≤ p0)))), (9, (vB (decide (p1 ≤ p0)))), (8, (vI p1)), (7, (vI p0))]
 refine st 4 a1 (gp true (decide (p1 ≤ p0)) (vI p0) (fun hc => vl) (gp true (decide (p1 ≤ p0)) (vI p2) (fun hc => vl) (gp true (decide (p1 ≤ p0)) (vB (decide (p0 ≤ p2))) (fun hc => vop_val1 (Eq.trans (b := ([(true && ((decide (p1 ≤ p0)) == true)), (true && ((decide (p1 ≤ p0)) == true))] : List Bool).all id) (by kernel_rfl) (all_c hc (all_c hc rfl))) (by kernel_rfl)) ?_)))
 refine vs (fun (y : Bool) => (vB y)) h (fun y hy => vop_pickV hy (p := (true && ((decide (p1 ≤ p0)) == true))) (q := true) (by kernel_rfl) (by kernel_rfl) (by kernel_rfl) (by kernel_rfl) (fun hb => gc_t rfl hb) (fun _ => rfl)) fun y1 h => ?_
 let a2 : St := a1.p [(6, (vB y1)), (14, (vB y1)), (13, (.ite (true && ((decide (p1 ≤ p0)) == true)) (vB (decide (p0 ≤ p2))))), (12, (.ite (true && ((decide (p1 ≤ p0)) == true)) (vI p2))), (11, (.ite (true && ((decide (p1 ≤ p0)) == true)) (vI p0)))]
 refine st 1 a2 (nx (ri ?_))
 injection h with h; subst h
 exact r1 (v := (vB y1))
theorem OK_sValueOk (p0 : GValue) : FOk Tryd.prog 17 [(vGValue p0)] (fun y => (vB y)) (sValueOk p0) := by
 intro r h
 rw [sValueOk] at h
 refine aof trsValueOk ?_
 show avc Tryd.prog acsValueOk (qsValueOk _) ⟨[(0, (vGValue p0))], []⟩
 delta acsValueOk
 refine so ?_
 let a0 : St := ⟨[(2, (vB false)), (1, (.ptr 1 0)), (0, (vGValue p0))], [(1, bGValue p0)]⟩
 refine st 2 a0 (nx (si (so ?_)))
 let a1 : St := a0.p [(4, (vI p0.kind)), (3, (.ptr 1 0))]
 refine st 2 a1 (nx (bi (so ?_)))
 let a2 : St := a1.p [(5, (vB (decide (p0.kind = 0)))), (6, (vB (decide (p0.kind = 0))))]
 refine st 2 a2 (nx ?_)
 refine cd h (fun h => ?_) fun h => ?_
 refine so ?_
 let a3 : St := a2.p [(10, (vB (decide (p0.num = 0)))), (9, (vB (decide (p0.num = 0)))), (8, (vI p0.num)), (7, (.ptr 1 1))]
 refine st 4 a3 (gp true (decide (p0.num = 0)) (.ptr 1 2) (fun hc => vl) (gp true (decide (p0.num = 0)) (vS p0.text) (fun hc => vg hc) (gp true (decide (p0.num = 0)) (vB (decide (p0.text = []))) (fun hc => vg hc) ?_)))
 refine vs (fun (y : Bool) => (vB y)) h (fun y hy => vop_pickV hy (p := (true && ((decide (p0.num = 0)) == true))) (q := true) (by kernel_rfl) (by kernel_rfl) (by kernel_rfl) (by kernel_rfl) (fun hb => gc_t rfl hb) (fun _ => rfl)) fun y1 h => ?_
 let a4 : St := a3.p [(2, (vB y1)), (14, (vB y1)), (13, (.ite (true && ((decide (p0.num = 0)) == true)) (vB (decide (p0.text = []))))), (12, (.ite (true && ((decide (p0.num = 0)) == true)) (vS p0.text))), (11, (.ite (true && ((decide (p0.num = 0)) == true)) (.ptr 1 2)))]
 refine st 1 a4 (nx (ri (br (tr ?_))))
 injection h with h; subst h
 exact r1 (v := (vB y1))
 refine so ?_
 let a5 : St := a2.p [(15, (vB (decide (p0.kind = 1)))), (16, (vB (decide (p0.kind = 1))))]
 refine st 2 a5 (nx ?_)
 refine cd h (fun h => ?_) fun h => ?_
 refine so ?_
 let a6 : St := a5.p [(2, (vB (decide (p0.text = [])))), (19, (vB (decide (p0.text = [])))), (18, (vS p0.text)), (17, (.ptr 1 2))]
 refine st 4 a6 (nx (ri (br (tr ?_))))
 injection h with h; subst h
 exact r1 (v := (vB (decide (p0.text = []))))
 refine so ?_
 let a7 : St := a5.p [(20, (vB (decide (p0.kind = 2)))), (21, (vB (decide (p0.kind = 2))))]
 refine st 2 a7 (nx ?_)
 refine cd h (fun h => ?_) fun h => ?_
 refine so ?_
 let a8 : St := a7.p [(25, (vB (decide (p0.num = 0)))), (24, (vB (decide (p0.num = 0)))), (23, (vI p0.num)), (22, (.ptr 1 1))]
 refine st 4 a8 (gp true (decide (p0.num = 0)) (.ptr 1 2) (fun hc => vl) (gp true (decide (p0.num = 0)) (vS p0.text) (fun hc => vg hc) (gp true (decide (p0.num = 0)) (vI (ln p0.text)) (fun hc => vg hc) (gp true (decide (p0.num = 0)) (vB (decide ((ln p0.text) ≤ 200))) (fun hc => vg hc) ?_))))
 refine vs (fun (y : Bool) => (vB y)) h (fun y hy => vop_pickV hy (p := (true && ((decide (p0.num = 0)) == true))) (q := true) (by kernel_rfl) (by kernel_rfl) (by kernel_rfl) (by kernel_rfl) (fun hb => gc_t rfl hb) (fun _ => rfl)) fun y2 h => ?_
 let a9 : St := a8.p [(2, (vB y2)), (30, (vB y2)), (29, (.ite (true && ((decide (p0.num = 0)) == true)) (vB (decide ((ln p0.text) ≤ 200))))), (28, (.ite (true && ((decide (p0.num = 0)) == true)) (vI (ln p0.text)))), (27, (.ite (true && ((decide (p0.num = 0)) == true)) (vS p0.text))), (26, (.ite (true && ((decide (p0.num = 0)) == true)) (.ptr 1 2)))]
 refine st 1 a9 (nx (ri (br (tr ?_))))
 injection h with h; subst h
 exact r1 (v := (vB y2))
 refine so ?_
 let a10 : St := a7.p [(31, (vB (decide (p0.kind = 3)))), (32, (vB (decide (p0.kind = 3))))]
 refine st 2 a10 (nx ?_)
 refine cd h (fun h => ?_) fun h => ?_
 refine so ?_
 let a11 : St := a10.p [(34, (vI p0.num)), (33, (.ptr 1 1))]
 refine st 2 a11 (cs h (OK_sL1In p0.num 0 1) fun y3 h => ?_)
 let a12 : St := a11.p [(36, (vB y3)), (35, (vB y3))]
 refine st 1 a12 (gp true y3 (.ptr 1 2) (fun hc => vl) (gp true y3 (vS p0.text) (fun hc => vg hc) (gp true y3 (vB (decide (p0.text = []))) (fun hc => vg hc) (vs (fun (y : Bool) => (vB y)) h (fun y hy => vop_pickV hy (p := (true && (y3 == true))) (q := true) (by kernel_rfl) (by kernel_rfl) (by kernel_rfl) (by kernel_rfl) (fun hb => gc_t rfl hb) (fun _ => rfl)) fun y4 h => ?_))))
 let a13 : St := a12.p [(2, (vB y4)), (40, (vB y4)), (39, (.ite (gT y3) (vB (decide (p0.text = []))))), (38, (.ite (gT y3) (vS p0.text))), (37, (.ite (gT y3) (.ptr 1 2)))]
 refine st 1 a13 (nx (ri (br (tr ?_))))
 injection h with h; subst h
 exact r1 (v := (vB y4))
 refine ki (bn (xi (so ?_)))
 let a14 : St := a10.p [(2, (vB false))]
 refine st 1 a14 (nx (ri ?_))
 injection h with h; subst h
 exact r1 (v := (vB false))
theorem OK_sValueText (p0 : GValue) : FOk Tryd.prog 10 [(vGValue p0)] (fun y => (vS y)) (sValueText p0) := by
 intro r h
 rw [sValueText] at h
 refine aof trsValueText ?_
 show avc Tryd.prog acsValueText (qsValueText _) ⟨[(0, (vGValue p0))], []⟩
 delta acsValueText
 refine so ?_
 let a0 : St := ⟨[(2, (vS [])), (1, (.ptr 1 0)), (0, (vGValue p0))], [(1, bGValue p0)]⟩
 refine st 2 a0 (nx (si (so ?_)))
 let a1 : St := a0.p [(3, (vGValue p0))]
 refine st 1 a1 (cs h (OK_sValueOk p0) fun y1 h => ?_)
 let a2 : St := a1.p [(5, (vB (!y1))), (4, (vB y1))]
 refine st 1 a2 (nx ?_)
 refine cd h (fun h => ?_) fun h => ?_
 refine so ?_
 let a3 : St := a2.p [(2, (vS [63]))]
 refine st 1 a3 (nx (ri (tr ?_)))
 injection h with h; subst h
 exact r1 (v := (vS [63]))
 refine ki (xi (si (so ?_)))
 let a4 : St := a2.p [(7, (vI p0.kind)), (6, (.ptr 1 0))]
 refine st 2 a4 (nx (bi (so ?_)))
 let a5 : St := a4.p [(8, (vB (decide (p0.kind = 1)))), (9, (vB (decide (p0.kind = 1))))]
 refine st 2 a5 (nx ?_)
 refine cd h (fun h => ?_) fun h => ?_
 refine so ?_
 let a6 : St := a5.p [(11, (vI p0.num)), (10, (.ptr 1 1))]
 refine st 2 a6 (cs h (OK_sDigits p0.num) fun y2 h => ?_)
 let a7 : St := a6.p [(2, (vS y2)), (12, (vS y2))]
 refine st 1 a7 (nx (ri (br (tr ?_))))
 injection h with h; subst h
 exact r1 (v := (vS y2))
 refine so ?_
 let a8 : St := a5.p [(13, (vB (decide (p0.kind = 2)))), (14, (vB (decide (p0.kind = 2))))]
 refine st 2 a8 (nx ?_)
 refine cd h (fun h => ?_) fun h => ?_
 refine so ?_
 let a9 : St := a8.p [(16, (vS p0.text)), (15, (.ptr 1 2))]
 refine st 2 a9 (cs h (OK_sQuoteText p0.text) fun y3 h => ?_)
 let a10 : St := a9.p [(2, (vS y3)), (17, (vS y3))]
 refine st 1 a10 (nx (ri (br (tr ?_))))
 injection h with h; subst h
 exact r1 (v := (vS y3))
 refine so ?_
 let a11 : St := a8.p [(18, (vB (decide (p0.kind = 3)))), (19, (vB (decide (p0.kind = 3))))]
 refine st 2 a11 (nx ?_)
 refine cd h (fun h => ?_) fun h => ?_
 refine si (so ?_)
 let a12 : St := a11.p [(22, (vB (decide (p0.num = 1)))), (21, (vI p0.num)), (20, (.ptr 1 1))]
 refine st 3 a12 (nx ?_)
 refine cd h (fun h => ?_) fun h => ?_
 refine so ?_
 let a13 : St := a12.p [(2, (vS [84, 82, 85, 69]))]
 refine st 1 a13 (nx (ri (tr (br (tr ?_)))))
 injection h with h; subst h
 exact r1 (v := (vS [84, 82, 85, 69]))
 refine ki (xi (so ?_))
 let a14 : St := a12.p [(2, (vS [70, 65, 76, 83, 69]))]
 refine st 1 a14 (nx (ri (br (tr ?_))))
 injection h with h; subst h
 exact r1 (v := (vS [70, 65, 76, 83, 69]))
 refine ki (bn (xi (so ?_)))
 let a15 : St := a11.p [(2, (vS [78, 85, 76, 76]))]
 refine st 1 a15 (nx (ri ?_))
 injection h with h; subst h
 exact r1 (v := (vS [78, 85, 76, 76]))
theorem OKs_sRowsText_J2 (p0 : (List (List GValue))) : (∀ (x4 : Int) (x5 : Int) (x3_5 : (List Int)) (r : (List UInt8)), sRowsText_J2 p0 x4 x5 x3_5 = some r → avc Tryd.prog acsRowsText_J2 (qsRowsText_9 r) (stsRowsText_J2 p0 x4 x5 x3_5)) ∧ (∀ (x4 : Int) (x3_1 : (List Int)) (x5 : Int) (r : (List UInt8)), sRowsText_L1 p0 x4 x3_1 x5 = some r → avc Tryd.prog acsRowsText_L1 (qsRowsText_6 r) (stsRowsText_L1 p0 x4 x3_1 x5)) ∧ (∀ (x3 : (List Int)) (x4 : Int) (r : (List UInt8)), sRowsText_L0 p0 x3 x4 = some r → avc Tryd.prog acsRowsText_L0 (qsRowsText_1 r) (stsRowsText_L0 p0 x3 x4)) := by
 refine sRowsText_J2.mutual_partial_correctness p0 (fun x4 x5 x3_5 r => avc Tryd.prog acsRowsText_J2 (qsRowsText_9 r) (stsRowsText_J2 p0 x4 x5 x3_5)) (fun x4 x3_1 x5 r => avc Tryd.prog acsRowsText_L1 (qsRowsText_6 r) (stsRowsText_L1 p0 x4 x3_1 x5)) (fun x3 x4 r => avc Tryd.prog acsRowsText_L0 (qsRowsText_1 r) (stsRowsText_L0 p0 x3 x4)) ?_ ?_ ?_
 · intro F_sRowsText_L1 OK_sRowsText_L1 x4 x5 x3_5 r h
   delta acsRowsText_J2
   refine oi ?_
   let a17 : St := (stsRowsText_J2 p0 x4 x5 x3_5).p [(29, (vI x4)), (28, (.d (.sl 1 (p0.map (cSl 3 cGValue))))), (27, (.osl 3 5 1 (x3_5.map cU8)))]
   refine st 3 a17 (vs (fun (y : (List GValue)) => (.rp [(.sl 3 (y.map cGValue))])) h (fun y hy => via (l := p0) (f := (cSl 3 cGValue)) (g := (cSl 3 cGValue)) (k := .i64) hy (fun _ => rfl)) fun y7 h => ?_)
   let a18 : St := a17.p [(32, (vI x5)), (31, (.d (.sl 3 (y7.map cGValue)))), (30, (.rp [(.sl 3 (y7.map cGValue))]))]
   refine st 2 a18 (vs (fun (y : GValue) => (.rp (cGValue y))) h (fun y hy => via (l := y7) (f := cGValue) (g := cGValue) (k := .i64) hy (fun _ => rfl)) fun y8 h => ?_)
   let a19 : St := a18.p [(34, (vGValue y8)), (33, (.rp (cGValue y8)))]
   refine st 1 a19 (cs h (OK_sValueText y8) fun y9 h => ?_)
   refine app_step (t := 3) (l := x3_5) (m := (toBytes y9)) (f := cU8) (S' := fun y => ⟨[(36, (.osl 36 5 1 (y.map cU8))), (35, (vS y9)), (34, (vGValue y8)), (33, (.rp (cGValue y8))), (32, (vI x5)), (31, (.d (.sl 3 (y7.map cGValue)))), (30, (.rp [(.sl 3 (y7.map cGValue))])), (29, (vI x4)), (28, (.d (.sl 1 (p0.map (cSl 3 cGValue))))), (27, (.d (.sl 1 (x3_5.map cU8)))), (0, (.d (.sl 1 (p0.map (cSl 3 cGValue))))), (3, (.d (.sl 1 (x3_5.map cU8)))), (4, (vI x4)), (5, (vI x5))], []⟩) h (by kernel_rfl) (by kernel_rfl) (by kernel_rfl) (by kernel_rfl) (fun y => by kernel_rfl) ?_
   clear h; intro y10 h
   let a20 : St := ⟨[(3, (.osl 3 5 1 (y10.map cU8))), (36, (.d (.sl 1 (y10.map cU8)))), (35, (vS y9)), (34, (vGValue y8)), (33, (.rp (cGValue y8))), (32, (vI x5)), (31, (.d (.sl 3 (y7.map cGValue)))), (30, (.rp [(.sl 3 (y7.map cGValue))])), (29, (vI x4)), (28, (.d (.sl 1 (p0.map (cSl 3 cGValue))))), (27, (.d (.sl 1 (x3_5.map cU8)))), (0, (.d (.sl 1 (p0.map (cSl 3 cGValue))))), (3, (.d (.sl 1 (x3_5.map cU8)))), (4, (vI x4)), (5, (vI x5))], []⟩
   refine st 1 a20 (ni (bn (xi (oi ?_))))
   let a21 : St := a20.p [(5, (vI (IntKind.wrap .i64 (x5 + 1)))), (21, (vI (IntKind.wrap .i64 (x5 + 1)))), (20, (vI x5))]
   exact st 3 a21 (ni (loop_back (s' := stsRowsText_L1 p0 x4 y10 (IntKind.wrap .i64 (x5 + 1))) (wr [(3, .old 3)] (es (eo 3 (es (es er_nil)))) br_nil) (OK_sRowsText_L1 x4 y10 (IntKind.wrap .i64 (x5 + 1)) _ h)))
 · intro F_sRowsText_J2 F_sRowsText_L0 OK_sRowsText_J2 OK_sRowsText_L0 x4 x3_1 x5 r h
   delta acsRowsText_L1
   refine loop_unroll (si (so ?_))
   let a8 : St := (stsRowsText_L1 p0 x4 x3_1 x5).p [(15, (vI x4)), (14, (.d (.sl 1 (p0.map (cSl 3 cGValue))))), (13, (vI x5))]
   refine st 3 a8 (vs (fun (y : (List GValue)) => (.rp [(.sl 3 (y.map cGValue))])) h (fun y hy => via (l := p0) (f := (cSl 3 cGValue)) (g := (cSl 3 cGValue)) (k := .i64) hy (fun _ => rfl)) fun y3 h => ?_)
   let a9 : St := a8.p [(17, (.d (.sl 3 (y3.map cGValue)))), (16, (.rp [(.sl 3 (y3.map cGValue))]))]
   refine st 1 a9 (ps (vI (ln y3)) (vln (sz := 3) (l := y3) (f := cGValue)) ?_)
   let a10 : St := a9.p [(19, (vB (decide (x5 < (ln y3))))), (18, (vI (ln y3)))]
   refine st 1 a10 (nx ?_)
   refine cd h (fun h => ?_) fun h => ?_
   refine ki (xi (si (bi (si (so ?_)))))
   let a11 : St := a10.p [(23, (vB (decide (0 < x5)))), (22, (vI x5))]
   refine st 2 a11 (nx ?_)
   refine cd h (fun h => ?_) fun h => ?_
   refine oi ?_
   let a12 : St := a11.p [(24, (.osl 3 5 1 (x3_1.map cU8)))]
   refine st 1 a12 (bsl_step (l := ([124] : List Int)) (f := cU8) (g := cU8) (by kernel_rfl) (fun _ => rfl) (by kernel_rfl) ?_)
   refine app_step (t := 3) (l := x3_1) (m := ([124] : List Int)) (f := cU8) (S' := fun y => ⟨[(26, (.osl 26 5 1 (y.map cU8))), (25, (.osl 25 5 1 (([124] : List Int).map cU8))), (24, (.d (.sl 1 (x3_1.map cU8)))), (23, (vB (decide (0 < x5)))), (22, (vI x5)), (19, (vB (decide (x5 < (ln y3))))), (18, (vI (ln y3))), (17, (.d (.sl 3 (y3.map cGValue)))), (16, (.rp [(.sl 3 (y3.map cGValue))])), (15, (vI x4)), (14, (.d (.sl 1 (p0.map (cSl 3 cGValue))))), (13, (vI x5)), (0, (.d (.sl 1 (p0.map (cSl 3 cGValue))))), (3, (.d (.sl 1 (x3_1.map cU8)))), (4, (vI x4)), (5, (vI x5))], []⟩) h (by kernel_rfl) (by kernel_rfl) (by kernel_rfl) (by kernel_rfl) (fun y => by kernel_rfl) ?_
   clear h; intro y4 h
   let a13 : St := ⟨[(3, (.osl 3 5 1 (y4.map cU8))), (26, (.d (.sl 1 (y4.map cU8)))), (25, (.osl 25 5 1 (([124] : List Int).map cU8))), (24, (.d (.sl 1 (x3_1.map cU8)))), (23, (vB (decide (0 < x5)))), (22, (vI x5)), (19, (vB (decide (x5 < (ln y3))))), (18, (vI (ln y3))), (17, (.d (.sl 3 (y3.map cGValue)))), (16, (.rp [(.sl 3 (y3.map cGValue))])), (15, (vI x4)), (14, (.d (.sl 1 (p0.map (cSl 3 cGValue))))), (13, (vI x5)), (0, (.d (.sl 1 (p0.map (cSl 3 cGValue))))), (3, (.d (.sl 1 (x3_1.map cU8)))), (4, (vI x4)), (5, (vI x5))], []⟩
   exact st 1 a13 (ni (next_step (s' := stsRowsText_J2 p0 x4 x5 y4) (wr [(3, .old 3)] (es (eo 3 (es (es er_nil)))) br_nil) (OK_sRowsText_J2 x4 x5 y4 _ h)))
   exact ki (next_step (s' := stsRowsText_J2 p0 x4 x5 x3_1) (wr [(3, .old 3)] (es (eo 3 (es (es er_nil)))) br_nil) (OK_sRowsText_J2 x4 x5 x3_1 _ h))
   refine ei (te (te (bh (xi (oi ?_)))))
   let a14 : St := a10.p [(37, (.osl 3 5 1 (x3_1.map cU8)))]
   refine st 1 a14 (bsl_step (l := ([10] : List Int)) (f := cU8) (g := cU8) (by kernel_rfl) (fun _ => rfl) (by kernel_rfl) ?_)
   refine app_step (t := 3) (l := x3_1) (m := ([10] : List Int)) (f := cU8) (S' := fun y => ⟨[(39, (.osl 39 5 1 (y.map cU8))), (38, (.osl 38 5 1 (([10] : List Int).map cU8))), (37, (.d (.sl 1 (x3_1.map cU8)))), (19, (vB (decide (x5 < (ln y3))))), (18, (vI (ln y3))), (17, (.d (.sl 3 (y3.map cGValue)))), (16, (.rp [(.sl 3 (y3.map cGValue))])), (15, (vI x4)), (14, (.d (.sl 1 (p0.map (cSl 3 cGValue))))), (13, (vI x5)), (0, (.d (.sl 1 (p0.map (cSl 3 cGValue))))), (3, (.d (.sl 1 (x3_1.map cU8)))), (4, (vI x4)), (5, (vI x5))], []⟩) h (by kernel_rfl) (by kernel_rfl) (by kernel_rfl) (by kernel_rfl) (fun y => by kernel_rfl) ?_
   clear h; intro y6 h
   let a15 : St := ⟨[(3, (.osl 3 5 1 (y6.map cU8))), (39, (.d (.sl 1 (y6.map cU8)))), (38, (.osl 38 5 1 (([10] : List Int).map cU8))), (37, (.d (.sl 1 (x3_1.map cU8)))), (19, (vB (decide (x5 < (ln y3))))), (18, (vI (ln y3))), (17, (.d (.sl 3 (y3.map cGValue)))), (16, (.rp [(.sl 3 (y3.map cGValue))])), (15, (vI x4)), (14, (.d (.sl 1 (p0.map (cSl 3 cGValue))))), (13, (vI x5)), (0, (.d (.sl 1 (p0.map (cSl 3 cGValue))))), (3, (.d (.sl 1 (x3_1.map cU8)))), (4, (vI x4)), (5, (vI x5))], []⟩
   refine st 1 a15 (ni (bn (xi (oi ?_))))
   let a16 : St := a15.p [(4, (vI (IntKind.wrap .i64 (x4 + 1)))), (12, (vI (IntKind.wrap .i64 (x4 + 1)))), (11, (vI x4))]
   exact st 3 a16 (ni (loop_back (s' := stsRowsText_L0 p0 y6 (IntKind.wrap .i64 (x4 + 1))) (wr [(3, .old 3)] (es (eo 3 (es er_nil))) br_nil) (OK_sRowsText_L0 y6 (IntKind.wrap .i64 (x4 + 1)) _ h)))
 · intro F_sRowsText_L1 OK_sRowsText_L1 x3 x4 r h
   delta acsRowsText_L0
   refine loop_unroll (si (so ?_))
   let a3 : St := (stsRowsText_L0 p0 x3 x4).p [(8, (.d (.sl 1 (p0.map (cSl 3 cGValue))))), (7, (vI x4))]
   refine st 2 a3 (ps (vI (ln p0)) (vln (sz := 1) (l := p0) (f := (cSl 3 cGValue))) ?_)
   let a4 : St := a3.p [(10, (vB (decide (x4 < (ln p0))))), (9, (vI (ln p0)))]
   refine st 1 a4 (nx ?_)
   refine cd h (fun h => ?_) fun h => ?_
   refine ki (xi (si (bi (si (so ?_)))))
   let a5 : St := a4.p [(5, (vI 0))]
   exact st 1 a5 (nx (bi (loop_go (s' := stsRowsText_L1 p0 x4 x3 0) (wr [(3, .old 3)] (es (eo 3 (es (es er_nil)))) br_nil) (OK_sRowsText_L1 x4 x3 0 _ h))))
   refine ei (te (te (bh (xi (so ?_)))))
   let a6 : St := a4.p [(40, (.osl 3 5 1 (x3.map cU8)))]
   refine st 1 a6 (vs (fun (y : (List UInt8)) => (vS y)) h (fun y hy => vop_cbs (l := x3) hy (by kernel_rfl) (by kernel_rfl)) fun y2 h => ?_)
   let a7 : St := a6.p [(2, (vS y2)), (41, (vS y2))]
   refine st 1 a7 (nx (ri ?_))
   injection h with h; subst h
   exact r1 (v := (vS y2))
theorem OK_sRowsText_J2 (p0 : (List (List GValue))) (x4 : Int) (x5 : Int) (x3_5 : (List Int)) (r : (List UInt8)) (h : sRowsText_J2 p0 x4 x5 x3_5 = some r) : avc Tryd.prog acsRowsText_J2 (qsRowsText_9 r) (stsRowsText_J2 p0 x4 x5 x3_5) := (OKs_sRowsText_J2 p0).1 x4 x5 x3_5 r h
theorem OK_sRowsText_L1 (p0 : (List (List GValue))) (x4 : Int) (x3_1 : (List Int)) (x5 : Int) (r : (List UInt8)) (h : sRowsText_L1 p0 x4 x3_1 x5 = some r) : avc Tryd.prog acsRowsText_L1 (qsRowsText_6 r) (stsRowsText_L1 p0 x4 x3_1 x5) := (OKs_sRowsText_J2 p0).2.1 x4 x3_1 x5 r h
theorem OK_sRowsText_L0 (p0 : (List (List GValue))) (x3 : (List Int)) (x4 : Int) (r : (List UInt8)) (h : sRowsText_L0 p0 x3 x4 = some r) : avc Tryd.prog acsRowsText_L0 (qsRowsText_1 r) (stsRowsText_L0 p0 x3 x4) := (OKs_sRowsText_J2 p0).2.2 x3 x4 r h
theorem OK_sRowsText (p0 : (List (List GValue))) : FOk Tryd.prog 5 [(.d (.sl 1 (p0.map (cSl 3 cGValue))))] (fun y => (vS y)) (sRowsText p0) := by
 intro r h
 rw [sRowsText] at h
 refine aof trsRowsText ?_
 show avc Tryd.prog acsRowsText (qsRowsText _) ⟨[(0, (.d (.sl 1 (p0.map (cSl 3 cGValue)))))], []⟩
 delta acsRowsText
 refine so ?_
 let a0 : St := ⟨[(2, (vS [])), (0, (.d (.sl 1 (p0.map (cSl 3 cGValue)))))], []⟩
 refine st 1 a0 (nx (so (bsl_step (l := ([] : List Int)) (f := cU8) (g := cU8) (by kernel_rfl) (fun _ => rfl) (by kernel_rfl) ?_)))
 let a1 : St := a0.p [(3, (.osl 3 5 1 (([] : List Int).map cU8))), (6, (.d (.sl 1 (([] : List Int).map cU8))))]
 refine st 1 a1 (nx (si (so ?_)))
 let a2 : St := a1.p [(4, (vI 0))]
 exact st 1 a2 (nx (bi (loop_go (s' := stsRowsText_L0 p0 ([] : List Int) 0) (wr [(3, .old 3)] (es (eo 3 (es er_nil))) br_nil) (OK_sRowsText_L0 p0 ([] : List Int) 0 _ h))))
theorem OK_wEqValue (p0 : GValue) (p1 : GValue) : FOk Tryd.prog 25 [(vGValue p0), (vGValue p1)] (fun y => (vB y)) (wEqValue p0 p1) := by
 intro r h
 rw [wEqValue] at h
 refine aof trwEqValue ?_
 show avc Tryd.prog acwEqValue (qwEqValue _) ⟨[(0, (vGValue p0)), (1, (vGValue p1))], []⟩
 delta acwEqValue
 refine so ?_
 let a0 : St := ⟨[(4, (vB false)), (3, (.ptr 3 0)), (2, (.ptr 2 0)), (0, (vGValue p0)), (1, (vGValue p1))], [(3, bGValue p1), (2, bGValue p0)]⟩
 refine st 3 a0 (nx (si (so ?_)))
 let a1 : St := a0.p [(9, (vB (!decide (p0.kind = p1.kind)))), (8, (vI p1.kind)), (7, (.ptr 3 0)), (6, (vI p0.kind)), (5, (.ptr 2 0))]
 refine st 5 a1 (nx ?_)
 refine cd h (fun h => ?_) fun h => ?_
 refine so ?_
 let a2 : St := a1.p [(4, (vB false))]
 refine st 1 a2 (nx (ri (tr ?_)))
 injection h with h; subst h
 exact r1 (v := (vB false))
 refine ki (xi (si (so ?_)))
 let a3 : St := a1.p [(14, (vB (!decide (p0.num = p1.num)))), (13, (vI p1.num)), (12, (.ptr 3 1)), (11, (vI p0.num)), (10, (.ptr 2 1))]
 refine st 5 a3 (nx ?_)
 refine cd h (fun h => ?_) fun h => ?_
 refine so ?_
 let a4 : St := a3.p [(4, (vB false))]
 refine st 1 a4 (nx (ri (tr ?_)))
 injection h with h; subst h
 exact r1 (v := (vB false))
 refine ki (xi (si (so ?_)))
 let a5 : St := a3.p [(19, (vB (!decide (p0.text = p1.text)))), (18, (vS p1.text)), (17, (.ptr 3 2)), (16, (vS p0.text)), (15, (.ptr 2 2))]
 refine st 5 a5 (nx ?_)
 refine cd h (fun h => ?_) fun h => ?_
 refine so ?_
 let a6 : St := a5.p [(4, (vB false))]
 refine st 1 a6 (nx (ri (tr ?_)))
 injection h with h; subst h
 exact r1 (v := (vB false))
 refine ki (xi (so ?_))
 let a7 : St := a5.p [(4, (vB true))]
 refine st 1 a7 (nx (ri ?_))
 injection h with h; subst h
 exact r1 (v := (vB true))
theorem OKs_wEqValueS_L0 (p0 : (List GValue)) (p1 : (List GValue)) : (∀ (x5 : Int) (r : Bool), wEqValueS_L0 p0 p1 x5 = some r → avc Tryd.prog acwEqValueS_L0 (qwEqValueS_1 r) (stwEqValueS_L0 p0 p1 x5)) := by
 refine wEqValueS_L0.partial_correctness p0 p1 (fun x5 r => avc Tryd.prog acwEqValueS_L0 (qwEqValueS_1 r) (stwEqValueS_L0 p0 p1 x5)) ?_
 · intro F_wEqValueS_L0 OK_wEqValueS_L0 x5 r h
   delta acwEqValueS_L0
   refine loop_unroll (si (so ?_))
   let a6 : St := (stwEqValueS_L0 p0 p1 x5).p [(12, (.d (.sl 3 (p0.map cGValue)))), (11, (vI x5))]
   refine st 2 a6 (ps (vI (ln p0)) (vln (sz := 3) (l := p0) (f := cGValue)) ?_)
   let a7 : St := a6.p [(14, (vB (decide (x5 < (ln p0))))), (13, (vI (ln p0)))]
   refine st 1 a7 (nx ?_)
   refine cd h (fun h => ?_) fun h => ?_
   refine ki (xi (si (bi (si (dops_in ?_)))))
   let a8 : St := a7.p [(18, (vI x5)), (17, (.d (.sl 3 (p0.map cGValue))))]
   refine dsts_ok 2 (s' := a8) (by kernel_rfl) (dv_step (m := idx p0 x5) (v' := fun y => (.rp (cGValue y))) h rfl rfl (fun y hy => via (l := p0) (f := cGValue) (g := cGValue) (k := .i64) hy (fun _ => rfl)) ?_)
   clear h; intro y1 h
   let a9 : St := a8.p [(22, (vI x5)), (21, (.d (.sl 3 (p1.map cGValue)))), (20, (vGValue y1)), (19, (.rp (cGValue y1)))]
   refine dsts_ok 3 (s' := a9) (by kernel_rfl) (dv_step (m := idx p1 x5) (v' := fun y => (.rp (cGValue y))) h rfl rfl (fun y hy => via (l := p1) (f := cGValue) (g := cGValue) (k := .i64) hy (fun _ => rfl)) ?_)
   clear h; intro y2 h
   let a10 : St := a9.p [(24, (vGValue y2)), (23, (.rp (cGValue y2)))]
   refine dsts_ok 1 (s' := a10) (by kernel_rfl) (dcall_step (m := wEqValue y1 y2) (args := [(vGValue y1), (vGValue y2)]) (v' := (fun y => (vB y))) h (OK_wEqValue y1 y2) (by kernel_rfl) (by kernel_rfl) (fun _ => rfl) ?_)
   clear h; intro y3 h
   let a11 : St := a10.p [(26, (vB (!y3))), (25, (vB y3))]
   refine dsts_ok 1 (s' := a11) (by kernel_rfl) (dnil_in (by kernel_rfl) (by kernel_rfl) (xi ?_))
   refine cd h (fun h => ?_) fun h => ?_
   refine so ?_
   let a12 : St := a11.p [(4, (vB false))]
   refine st 1 a12 (nx (ri (br (tr (tr (br (tr ?_)))))))
   injection h with h; subst h
   exact r1 (v := (vB false))
   refine ki (bn (xi (oi ?_)))
   let a13 : St := a11.p [(5, (vI (IntKind.wrap .i64 (x5 + 1)))), (16, (vI (IntKind.wrap .i64 (x5 + 1)))), (15, (vI x5))]
   exact st 3 a13 (ni (loop_back (s' := stwEqValueS_L0 p0 p1 (IntKind.wrap .i64 (x5 + 1))) (wr [] (es (es (es er_nil))) br_nil) (OK_wEqValueS_L0 (IntKind.wrap .i64 (x5 + 1)) _ h)))
   refine ei (te (te (bh (xi (so ?_)))))
   let a14 : St := a7.p [(4, (vB true))]
   refine st 1 a14 (nx (ri ?_))
   injection h with h; subst h
   exact r1 (v := (vB true))
theorem OK_wEqValueS_L0 (p0 : (List GValue)) (p1 : (List GValue)) (x5 : Int) (r : Bool) (h : wEqValueS_L0 p0 p1 x5 = some r) : avc Tryd.prog acwEqValueS_L0 (qwEqValueS_1 r) (stwEqValueS_L0 p0 p1 x5) := (OKs_wEqValueS_L0 p0 p1) x5 r h
theorem OK_wEqValueS (p0 : (List GValue)) (p1 : (List GValue)) : FOk Tryd.prog 15 [(.d (.sl 3 (p0.map cGValue))), (.d (.sl 3 (p1.map cGValue)))] (fun y => (vB y)) (wEqValueS p0 p1) := by
 intro r h
 rw [wEqValueS] at h
 refine aof trwEqValueS ?_
 show avc Tryd.prog acwEqValueS (qwEqValueS _) ⟨[(0, (.d (.sl 3 (p0.map cGValue)))), (1, (.d (.sl 3 (p1.map cGValue))))], []⟩
 delta acwEqValueS
 refine so ?_
 let a0 : St := ⟨[(4, (vB false)), (0, (.d (.sl 3 (p0.map cGValue)))), (1, (.d (.sl 3 (p1.map cGValue))))], []⟩
 refine st 1 a0 (nx (si (so ?_)))
 let a1 : St := a0.p [(6, (.d (.sl 3 (p0.map cGValue))))]
 refine st 1 a1 (ps (vI (ln p0)) (vln (sz := 3) (l := p0) (f := cGValue)) ?_)
 let a2 : St := a1.p [(8, (.d (.sl 3 (p1.map cGValue)))), (7, (vI (ln p0)))]
 refine st 1 a2 (ps (vI (ln p1)) (vln (sz := 3) (l := p1) (f := cGValue)) ?_)
 let a3 : St := a2.p [(10, (vB (!decide ((ln p0) = (ln p1))))), (9, (vI (ln p1)))]
 refine st 1 a3 (nx ?_)
 refine cd h (fun h => ?_) fun h => ?_
 refine so ?_
 let a4 : St := a3.p [(4, (vB false))]
 refine st 1 a4 (nx (ri (tr ?_)))
 injection h with h; subst h
 exact r1 (v := (vB false))
 refine ki (xi (si (so ?_)))
 let a5 : St := a3.p [(5, (vI 0))]
 exact st 1 a5 (nx (bi (loop_go (s' := stwEqValueS_L0 p0 p1 0) (wr [] (es (es (es er_nil))) br_nil) (OK_wEqValueS_L0 p0 p1 0 _ h))))
theorem OKs_wEqValueSS_L0 (p0 : (List (List GValue))) (p1 : (List (List GValue))) : (∀ (x5 : Int) (r : Bool), wEqValueSS_L0 p0 p1 x5 = some r → avc Tryd.prog acwEqValueSS_L0 (qwEqValueSS_1 r) (stwEqValueSS_L0 p0 p1 x5)) := by
 refine wEqValueSS_L0.partial_correctness p0 p1 (fun x5 r => avc Tryd.prog acwEqValueSS_L0 (qwEqValueSS_1 r) (stwEqValueSS_L0 p0 p1 x5)) ?_
 · intro F_wEqValueSS_L0 OK_wEqValueSS_L0 x5 r h
   delta acwEqValueSS_L0
   refine loop_unroll (si (so ?_))
   let a6 : St := (stwEqValueSS_L0 p0 p1 x5).p [(12, (.d (.sl 1 (p0.map (cSl 3 cGValue))))), (11, (vI x5))]
   refine st 2 a6 (ps (vI (ln p0)) (vln (sz := 1) (l := p0) (f := (cSl 3 cGValue))) ?_)
   let a7 : St := a6.p [(14, (vB (decide (x5 < (ln p0))))), (13, (vI (ln p0)))]
   refine st 1 a7 (nx ?_)
   refine cd h (fun h => ?_) fun h => ?_
   refine ki (xi (si (bi (si (dops_in ?_)))))
   let a8 : St := a7.p [(18, (vI x5)), (17, (.d (.sl 1 (p0.map (cSl 3 cGValue)))))]
   refine dsts_ok 2 (s' := a8) (by kernel_rfl) (dv_step (m := idx p0 x5) (v' := fun y => (.rp [(.sl 3 (y.map cGValue))])) h rfl rfl (fun y hy => via (l := p0) (f := (cSl 3 cGValue)) (g := (cSl 3 cGValue)) (k := .i64) hy (fun _ => rfl)) ?_)
   clear h; intro y1 h
   let a9 : St := a8.p [(22, (vI x5)), (21, (.d (.sl 1 (p1.map (cSl 3 cGValue))))), (20, (.d (.sl 3 (y1.map cGValue)))), (19, (.rp [(.sl 3 (y1.map cGValue))]))]
   refine dsts_ok 3 (s' := a9) (by kernel_rfl) (dv_step (m := idx p1 x5) (v' := fun y => (.rp [(.sl 3 (y.map cGValue))])) h rfl rfl (fun y hy => via (l := p1) (f := (cSl 3 cGValue)) (g := (cSl 3 cGValue)) (k := .i64) hy (fun _ => rfl)) ?_)
   clear h; intro y2 h
   let a10 : St := a9.p [(24, (.d (.sl 3 (y2.map cGValue)))), (23, (.rp [(.sl 3 (y2.map cGValue))]))]
   refine dsts_ok 1 (s' := a10) (by kernel_rfl) (dcall_step (m := wEqValueS y1 y2) (args := [(.d (.sl 3 (y1.map cGValue))), (.d (.sl 3 (y2.map cGValue)))]) (v' := (fun y => (vB y))) h (OK_wEqValueS y1 y2) (by kernel_rfl) (by kernel_rfl) (fun _ => rfl) ?_)
   clear h; intro y3 h
   let a11 : St := a10.p [(26, (vB (!y3))), (25, (vB y3))]
   refine dsts_ok 1 (s' := a11) (by kernel_rfl) (dnil_in (by kernel_rfl) (by kernel_rfl) (xi ?_))
   refine cd h (fun h => ?_) fun h => ?_
   refine so ?_
   let a12 : St := a11.p [(4, (vB false))]
   refine st 1 a12 (nx (ri (br (tr (tr (br (tr ?_)))))))
   injection h with h; subst h
   exact r1 (v := (vB false))
   refine ki (bn (xi (oi ?_)))
   let a13 : St := a11.p [(5, (vI (IntKind.wrap .i64 (x5 + 1)))), (16, (vI (IntKind.wrap .i64 (x5 + 1)))), (15, (vI x5))]
   exact st 3 a13 (ni (loop_back (s' := stwEqValueSS_L0 p0 p1 (IntKind.wrap .i64 (x5 + 1))) (wr [] (es (es (es er_nil))) br_nil) (OK_wEqValueSS_L0 (IntKind.wrap .i64 (x5 + 1)) _ h)))
   refine ei (te (te (bh (xi (so ?_)))))
   let a14 : St := a7.p [(4, (vB true))]
   refine st 1 a14 (nx (ri ?_))
   injection h with h; subst h
   exact r1 (v := (vB true))
theorem OK_wEqValueSS_L0 (p0 : (List (List GValue))) (p1 : (List (List GValue))) (x5 : Int) (r : Bool) (h : wEqValueSS_L0 p0 p1 x5 = some r) : avc Tryd.prog acwEqValueSS_L0 (qwEqValueSS_1 r) (stwEqValueSS_L0 p0 p1 x5) := (OKs_wEqValueSS_L0 p0 p1) x5 r h
theorem OK_wEqValueSS (p0 : (List (List GValue))) (p1 : (List (List GValue))) : FOk Tryd.prog 8 [(.d (.sl 1 (p0.map (cSl 3 cGValue)))), (.d (.sl 1 (p1.map (cSl 3 cGValue))))] (fun y => (vB y)) (wEqValueSS p0 p1) := by
 intro r h
 rw [wEqValueSS] at h
 refine aof trwEqValueSS ?_
 show avc Tryd.prog acwEqValueSS (qwEqValueSS _) ⟨[(0, (.d (.sl 1 (p0.map (cSl 3 cGValue))))), (1, (.d (.sl 1 (p1.map (cSl 3 cGValue)))))], []⟩
 delta acwEqValueSS
 refine so ?_
 let a0 : St := ⟨[(4, (vB false)), (0, (.d (.sl 1 (p0.map (cSl 3 cGValue))))), (1, (.d (.sl 1 (p1.map (cSl 3 cGValue)))))], []⟩
 refine st 1 a0 (nx (si (so ?_)))
 let a1 : St := a0.p [(6, (.d (.sl 1 (p0.map (cSl 3 cGValue)))))]
 refine st 1 a1 (ps (vI (ln p0)) (vln (sz := 1) (l := p0) (f := (cSl 3 cGValue))) ?_)
 let a2 : St := a1.p [(8, (.d (.sl 1 (p1.map (cSl 3 cGValue))))), (7, (vI (ln p0)))]
 refine st 1 a2 (ps (vI (ln p1)) (vln (sz := 1) (l := p1) (f := (cSl 3 cGValue))) ?_)
 let a3 : St := a2.p [(10, (vB (!decide ((ln p0) = (ln p1))))), (9, (vI (ln p1)))]
 refine st 1 a3 (nx ?_)
 refine cd h (fun h => ?_) fun h => ?_
 refine so ?_
 let a4 : St := a3.p [(4, (vB false))]
 refine st 1 a4 (nx (ri (tr ?_)))
 injection h with h; subst h
 exact r1 (v := (vB false))
 refine ki (xi (si (so ?_)))
 let a5 : St := a3.p [(5, (vI 0))]
 exact st 1 a5 (nx (bi (loop_go (s' := stwEqValueSS_L0 p0 p1 0) (wr [] (es (es (es er_nil))) br_nil) (OK_wEqValueSS_L0 p0 p1 0 _ h))))
theorem OK_wSzValue (p0 : GValue) (p1 : Int) : FOk Tryd.prog 16 [(vGValue p0), (vI p1)] (fun y => (vI y)) (wSzValue p0 p1) := by
 intro r h
 rw [wSzValue] at h
 refine aof trwSzValue ?_
 show avc Tryd.prog acwSzValue (qwSzValue _) ⟨[(0, (vGValue p0)), (1, (vI p1))], []⟩
 delta acwSzValue
 refine so ?_
 let a0 : St := ⟨[(4, (vI 0)), (2, (.ptr 2 0)), (0, (vGValue p0)), (1, (vI p1))], [(2, bGValue p0)]⟩
 refine st 2 a0 (nx (so ?_))
 let a1 : St := a0.p [(1, (vI (IntKind.wrap .i64 (p1 - (ln p0.text))))), (9, (vI (IntKind.wrap .i64 (p1 - (ln p0.text))))), (8, (vI (ln p0.text))), (7, (vS p0.text)), (6, (.ptr 2 2)), (5, (vI p1))]
 refine st 6 a1 (nx (si (so ?_)))
 let a2 : St := a1.p [(11, (vB (decide ((IntKind.wrap .i64 (p1 - (ln p0.text))) < 0)))), (10, (vI (IntKind.wrap .i64 (p1 - (ln p0.text)))))]
 refine st 2 a2 (nx ?_)
 refine cd h (fun h => ?_) fun h => ?_
 refine so ?_
 let a3 : St := a2.p [(4, (vI (-1)))]
 refine st 1 a3 (nx (ri (tr ?_)))
 injection h with h; subst h
 exact r1 (v := (vI (-1)))
 refine ki (xi (so ?_))
 let a4 : St := a2.p [(4, (vI (IntKind.wrap .i64 (p1 - (ln p0.text))))), (12, (vI (IntKind.wrap .i64 (p1 - (ln p0.text)))))]
 refine st 2 a4 (nx (ri ?_))
 injection h with h; subst h
 exact r1 (v := (vI (IntKind.wrap .i64 (p1 - (ln p0.text)))))
theorem OKs_wSzValueS_L0 (p0 : (List GValue)) : (∀ (x1 : Int) (x5 : Int) (r : Int), wSzValueS_L0 p0 x1 x5 = some r → avc Tryd.prog acwSzValueS_L0 (qwSzValueS_1 r) (stwSzValueS_L0 p0 x1 x5)) := by
 refine wSzValueS_L0.partial_correctness p0 (fun x1 x5 r => avc Tryd.prog acwSzValueS_L0 (qwSzValueS_1 r) (stwSzValueS_L0 p0 x1 x5)) ?_
 · intro F_wSzValueS_L0 OK_wSzValueS_L0 x1 x5 r h
   delta acwSzValueS_L0
   refine loop_unroll (si (so ?_))
   let a6 : St := (stwSzValueS_L0 p0 x1 x5).p [(13, (.d (.sl 3 (p0.map cGValue)))), (12, (vI x5))]
   refine st 2 a6 (ps (vI (ln p0)) (vln (sz := 3) (l := p0) (f := cGValue)) ?_)
   let a7 : St := a6.p [(15, (vB (decide (x5 < (ln p0))))), (14, (vI (ln p0)))]
   refine st 1 a7 (nx ?_)
   refine cd h (fun h => ?_) fun h => ?_
   refine ki (xi (si (bi (so ?_))))
   let a8 : St := a7.p [(19, (vI x5)), (18, (.d (.sl 3 (p0.map cGValue))))]
   refine st 2 a8 (vs (fun (y : GValue) => (.rp (cGValue y))) h (fun y hy => via (l := p0) (f := cGValue) (g := cGValue) (k := .i64) hy (fun _ => rfl)) fun y1 h => ?_)
   let a9 : St := a8.p [(22, (vI x1)), (21, (vGValue y1)), (20, (.rp (cGValue y1)))]
   refine st 2 a9 (cs h (OK_wSzValue y1 x1) fun y2 h => ?_)
   let a10 : St := a9.p [(1, (vI y2)), (23, (vI y2))]
   refine st 1 a10 (nx (so ?_))
   let a11 : St := a10.p [(25, (vB (decide (y2 < 0)))), (24, (vI y2))]
   refine st 2 a11 (nx ?_)
   refine cd h (fun h => ?_) fun h => ?_
   refine so ?_
   let a12 : St := a11.p [(4, (vI (-1)))]
   refine st 1 a12 (nx (ri (br (tr (tr (br (tr ?_)))))))
   injection h with h; subst h
   exact r1 (v := (vI (-1)))
   refine ki (bn (xi (oi ?_)))
   let a13 : St := a11.p [(5, (vI (IntKind.wrap .i64 (x5 + 1)))), (17, (vI (IntKind.wrap .i64 (x5 + 1)))), (16, (vI x5))]
   exact st 3 a13 (ni (loop_back (s' := stwSzValueS_L0 p0 y2 (IntKind.wrap .i64 (x5 + 1))) (wr [] (es (es (es er_nil))) br_nil) (OK_wSzValueS_L0 y2 (IntKind.wrap .i64 (x5 + 1)) _ h)))
   refine ei (te (te (bh (xi (so ?_)))))
   let a14 : St := a7.p [(4, (vI x1)), (26, (vI x1))]
   refine st 2 a14 (nx (ri ?_))
   injection h with h; subst h
   exact r1 (v := (vI x1))
theorem OK_wSzValueS_L0 (p0 : (List GValue)) (x1 : Int) (x5 : Int) (r : Int) (h : wSzValueS_L0 p0 x1 x5 = some r) : avc Tryd.prog acwSzValueS_L0 (qwSzValueS_1 r) (stwSzValueS_L0 p0 x1 x5) := (OKs_wSzValueS_L0 p0) x1 x5 r h
theorem OK_wSzValueS (p0 : (List GValue)) (p1 : Int) : FOk Tryd.prog 9 [(.d (.sl 3 (p0.map cGValue))), (vI p1)] (fun y => (vI y)) (wSzValueS p0 p1) := by
 intro r h
 rw [wSzValueS] at h
 refine aof trwSzValueS ?_
 show avc Tryd.prog acwSzValueS (qwSzValueS _) ⟨[(0, (.d (.sl 3 (p0.map cGValue)))), (1, (vI p1))], []⟩
 delta acwSzValueS
 refine so ?_
 let a0 : St := ⟨[(4, (vI 0)), (0, (.d (.sl 3 (p0.map cGValue)))), (1, (vI p1))], []⟩
 refine st 1 a0 (nx (so ?_))
 let a1 : St := a0.p [(7, (.d (.sl 3 (p0.map cGValue)))), (6, (vI p1))]
 refine st 2 a1 (ps (vI (ln p0)) (vln (sz := 3) (l := p0) (f := cGValue)) ?_)
 let a2 : St := a1.p [(1, (vI (IntKind.wrap .i64 (p1 - (ln p0))))), (9, (vI (IntKind.wrap .i64 (p1 - (ln p0))))), (8, (vI (ln p0)))]
 refine st 2 a2 (nx (si (so ?_)))
 let a3 : St := a2.p [(11, (vB (decide ((IntKind.wrap .i64 (p1 - (ln p0))) < 0)))), (10, (vI (IntKind.wrap .i64 (p1 - (ln p0)))))]
 refine st 2 a3 (nx ?_)
 refine cd h (fun h => ?_) fun h => ?_
 refine so ?_
 let a4 : St := a3.p [(4, (vI (-1)))]
 refine st 1 a4 (nx (ri (tr ?_)))
 injection h with h; subst h
 exact r1 (v := (vI (-1)))
 refine ki (xi (si (so ?_)))
 let a5 : St := a3.p [(5, (vI 0))]
 exact st 1 a5 (nx (bi (loop_go (s' := stwSzValueS_L0 p0 (IntKind.wrap .i64 (p1 - (ln p0))) 0) (wr [] (es (es (es er_nil))) br_nil) (OK_wSzValueS_L0 p0 (IntKind.wrap .i64 (p1 - (ln p0))) 0 _ h))))
theorem OKs_wSzValueSS_L0 (p0 : (List (List GValue))) : (∀ (x1 : Int) (x5 : Int) (r : Int), wSzValueSS_L0 p0 x1 x5 = some r → avc Tryd.prog acwSzValueSS_L0 (qwSzValueSS_1 r) (stwSzValueSS_L0 p0 x1 x5)) := by
 refine wSzValueSS_L0.partial_correctness p0 (fun x1 x5 r => avc Tryd.prog acwSzValueSS_L0 (qwSzValueSS_1 r) (stwSzValueSS_L0 p0 x1 x5)) ?_
 · intro F_wSzValueSS_L0 OK_wSzValueSS_L0 x1 x5 r h
   delta acwSzValueSS_L0
   refine loop_unroll (si (so ?_))
   let a6 : St := (stwSzValueSS_L0 p0 x1 x5).p [(13, (.d (.sl 1 (p0.map (cSl 3 cGValue))))), (12, (vI x5))]
   refine st 2 a6 (ps (vI (ln p0)) (vln (sz := 1) (l := p0) (f := (cSl 3 cGValue))) ?_)
   let a7 : St := a6.p [(15, (vB (decide (x5 < (ln p0))))), (14, (vI (ln p0)))]
   refine st 1 a7 (nx ?_)
   refine cd h (fun h => ?_) fun h => ?_
   refine ki (xi (si (bi (so ?_))))
   let a8 : St := a7.p [(19, (vI x5)), (18, (.d (.sl 1 (p0.map (cSl 3 cGValue)))))]
   refine st 2 a8 (vs (fun (y : (List GValue)) => (.rp [(.sl 3 (y.map cGValue))])) h (fun y hy => via (l := p0) (f := (cSl 3 cGValue)) (g := (cSl 3 cGValue)) (k := .i64) hy (fun _ => rfl)) fun y1 h => ?_)
   let a9 : St := a8.p [(22, (vI x1)), (21, (.d (.sl 3 (y1.map cGValue)))), (20, (.rp [(.sl 3 (y1.map cGValue))]))]
   refine st 2 a9 (cs h (OK_wSzValueS y1 x1) fun y2 h => ?_)
   let a10 : St := a9.p [(1, (vI y2)), (23, (vI y2))]
   refine st 1 a10 (nx (so ?_))
   let a11 : St := a10.p [(25, (vB (decide (y2 < 0)))), (24, (vI y2))]
   refine st 2 a11 (nx ?_)
   refine cd h (fun h => ?_) fun h => ?_
   refine so ?_
   let a12 : St := a11.p [(4, (vI (-1)))]
   refine st 1 a12 (nx (ri (br (tr (tr (br (tr ?_)))))))
   injection h with h; subst h
   exact r1 (v := (vI (-1)))
   refine ki (bn (xi (oi ?_)))
   let a13 : St := a11.p [(5, (vI (IntKind.wrap .i64 (x5 + 1)))), (17, (vI (IntKind.wrap .i64 (x5 + 1)))), (16, (vI x5))]
   exact st 3 a13 (ni (loop_back (s' := stwSzValueSS_L0 p0 y2 (IntKind.wrap .i64 (x5 + 1))) (wr [] (es (es (es er_nil))) br_nil) (OK_wSzValueSS_L0 y2 (IntKind.wrap .i64 (x5 + 1)) _ h)))
   refine ei (te (te (bh (xi (so ?_)))))
   let a14 : St := a7.p [(4, (vI x1)), (26, (vI x1))]
   refine st 2 a14 (nx (ri ?_))
   injection h with h; subst h
   exact r1 (v := (vI x1))
theorem OK_wSzValueSS_L0 (p0 : (List (List GValue))) (x1 : Int) (x5 : Int) (r : Int) (h : wSzValueSS_L0 p0 x1 x5 = some r) : avc Tryd.prog acwSzValueSS_L0 (qwSzValueSS_1 r) (stwSzValueSS_L0 p0 x1 x5) := (OKs_wSzValueSS_L0 p0) x1 x5 r h
theorem OK_wSzValueSS (p0 : (List (List GValue))) (p1 : Int) : FOk Tryd.prog 4 [(.d (.sl 1 (p0.map (cSl 3 cGValue)))), (vI p1)] (fun y => (vI y)) (wSzValueSS p0 p1) := by
 intro r h
 rw [wSzValueSS] at h
 refine aof trwSzValueSS ?_
 show avc Tryd.prog acwSzValueSS (qwSzValueSS _) ⟨[(0, (.d (.sl 1 (p0.map (cSl 3 cGValue))))), (1, (vI p1))], []⟩
 delta acwSzValueSS
 refine so ?_
 let a0 : St := ⟨[(4, (vI 0)), (0, (.d (.sl 1 (p0.map (cSl 3 cGValue))))), (1, (vI p1))], []⟩
 refine st 1 a0 (nx (so ?_))
 let a1 : St := a0.p [(7, (.d (.sl 1 (p0.map (cSl 3 cGValue))))), (6, (vI p1))]
 refine st 2 a1 (ps (vI (ln p0)) (vln (sz := 1) (l := p0) (f := (cSl 3 cGValue))) ?_)
 let a2 : St := a1.p [(1, (vI (IntKind.wrap .i64 (p1 - (ln p0))))), (9, (vI (IntKind.wrap .i64 (p1 - (ln p0))))), (8, (vI (ln p0)))]
 refine st 2 a2 (nx (si (so ?_)))
 let a3 : St := a2.p [(11, (vB (decide ((IntKind.wrap .i64 (p1 - (ln p0))) < 0)))), (10, (vI (IntKind.wrap .i64 (p1 - (ln p0)))))]
 refine st 2 a3 (nx ?_)
 refine cd h (fun h => ?_) fun h => ?_
 refine so ?_
 let a4 : St := a3.p [(4, (vI (-1)))]
 refine st 1 a4 (nx (ri (tr ?_)))
 injection h with h; subst h
 exact r1 (v := (vI (-1)))
 refine ki (xi (si (so ?_)))
 let a5 : St := a3.p [(5, (vI 0))]
 exact st 1 a5 (nx (bi (loop_go (s' := stwSzValueSS_L0 p0 (IntKind.wrap .i64 (p1 - (ln p0))) 0) (wr [] (es (es (es er_nil))) br_nil) (OK_wSzValueSS_L0 p0 (IntKind.wrap .i64 (p1 - (ln p0))) 0 _ h))))
theorem OK_wToValue (p0 : GValue) : FOk Tryd.prog 20 [(vGValue p0)] (fun y => (vGValue y)) (wToValue p0) := by
 intro r h
 rw [wToValue] at h
 refine aof trwToValue ?_
 show avc Tryd.prog acwToValue (qwToValue _) ⟨[(0, (vGValue p0))], []⟩
 delta acwToValue
 refine so ?_
 let a0 : St := ⟨[(2, (.ptr 2 0)), (1, (.ptr 1 0)), (0, (vGValue p0))], [(2, [(vI 0), (vI 0), (vS [])]), (1, bGValue p0)]⟩
 refine st 2 a0 (nx (so ?_))
 let a1 : St := ⟨(3, (.ptr 3 0)) :: a0.env, [(3, [(vI 0), (vI 0), (vS [])]), (2, [(vI 0), (vI 0), (vS [])]), (1, bGValue p0)]⟩
 refine st 1 a1 (nx (so ?_))
 let a2 : St := ⟨(6, (.ptr 3 0)) :: (5, (vI p0.kind)) :: (4, (.ptr 1 0)) :: a1.env, [(3, [(vI p0.kind), (vI 0), (vS [])]), (2, [(vI 0), (vI 0), (vS [])]), (1, bGValue p0)]⟩
 refine st 4 a2 (nx (so ?_))
 let a3 : St := ⟨(9, (.ptr 3 1)) :: (8, (vI p0.num)) :: (7, (.ptr 1 1)) :: a2.env, [(3, [(vI p0.kind), (vI p0.num), (vS [])]), (2, [(vI 0), (vI 0), (vS [])]), (1, bGValue p0)]⟩
 refine st 4 a3 (nx (so ?_))
 let a4 : St := ⟨(12, (.ptr 3 2)) :: (11, (vS p0.text)) :: (10, (.ptr 1 2)) :: a3.env, [(3, [(vI p0.kind), (vI p0.num), (vS p0.text)]), (2, [(vI 0), (vI 0), (vS [])]), (1, bGValue p0)]⟩
 refine st 4 a4 (nx (so ?_))
 let a5 : St := ⟨(13, (vGValue p0)) :: a4.env, [(3, [(vI p0.kind), (vI p0.num), (vS p0.text)]), (2, bGValue p0), (1, bGValue p0)]⟩
 refine st 2 a5 (nx (ri ?_))
 injection h with h; subst h
 exact r1 (v := (vGValue p0))
theorem OKs_wToValueS_L0 (p0 : (List GValue)) : (∀ (x4 : Int) (b7_0 : (List GValue)) (r : (List GValue)), wToValueS_L0 p0 x4 b7_0 = some r → avc Tryd.prog acwToValueS_L0 (qwToValueS_1 r) (stwToValueS_L0 p0 x4 b7_0)) := by
 refine wToValueS_L0.partial_correctness p0 (fun x4 b7_0 r => avc Tryd.prog acwToValueS_L0 (qwToValueS_1 r) (stwToValueS_L0 p0 x4 b7_0)) ?_
 · intro F_wToValueS_L0 OK_wToValueS_L0 x4 b7_0 r h
   delta acwToValueS_L0
   refine loop_unroll (si (so ?_))
   let a4 : St := (stwToValueS_L0 p0 x4 b7_0).p [(9, (.d (.sl 3 (p0.map cGValue)))), (8, (vI x4))]
   refine st 2 a4 (ps (vI (ln p0)) (vln (sz := 3) (l := p0) (f := cGValue)) ?_)
   let a5 : St := a4.p [(11, (vB (decide (x4 < (ln p0))))), (10, (vI (ln p0)))]
   refine st 1 a5 (nx ?_)
   refine cd h (fun h => ?_) fun h => ?_
   refine ki (xi (si (bi (oi ?_))))
   let a6 : St := a5.p [(17, (vI x4)), (16, (.d (.sl 3 (p0.map cGValue)))), (15, (vI x4)), (14, (.msl 7 3 0 b7_0.length b7_0.length))]
   refine st 4 a6 (vs (fun (y : GValue) => (.rp (cGValue y))) h (fun y hy => via (l := p0) (f := cGValue) (g := cGValue) (k := .i64) hy (fun _ => rfl)) fun y2 h => ?_)
   let a7 : St := a6.p [(19, (vGValue y2)), (18, (.rp (cGValue y2)))]
   refine st 1 a7 (cs h (OK_wToValue y2) fun y3 h => (vs (fun (y : GValue) => (.ptr 7 ((0 + (x4).toNat) * 3))) h (fun y hy => vop_iaE (l := b7_0) (k := .i64) hy (by kernel_rfl) (by kernel_rfl) (by kernel_rfl)) fun y4 h => ?_))
   refine sti_step (b := 7) (i := x4) (l := b7_0) (v := y3) (f := cGValue) (u := (vGValue y3)) (T := fun y m => ⟨[(21, (.ptr 7 ((0 + (x4).toNat) * 3))), (20, (vGValue y3)), (19, (vGValue y2)), (18, (.rp (cGValue y2))), (17, (vI x4)), (16, (.d (.sl 3 (p0.map cGValue)))), (15, (vI x4)), (14, (.msl 7 3 0 m m)), (11, (vB (decide (x4 < (ln p0))))), (10, (vI (ln p0))), (9, (.d (.sl 3 (p0.map cGValue)))), (8, (vI x4)), (0, (.d (.sl 3 (p0.map cGValue)))), (3, (.msl 7 3 0 m m)), (4, (vI x4))], [(7, rowsV (y.map cGValue))]⟩) h (by kernel_rfl) (by kernel_rfl) (by kernel_rfl) (by kernel_rfl) (fun y => (congrArg List.length ((fun _ => rfl) y)).trans rfl) (by kernel_rfl) (fun y => by kernel_rfl) ?_
   clear h; intro y5 h
   refine ni (bn (xi (oi ?_)))
   let a8 : St := ⟨[(4, (vI (IntKind.wrap .i64 (x4 + 1)))), (13, (vI (IntKind.wrap .i64 (x4 + 1)))), (12, (vI x4)), (21, (.ptr 7 ((0 + (x4).toNat) * 3))), (20, (vGValue y3)), (19, (vGValue y2)), (18, (.rp (cGValue y2))), (17, (vI x4)), (16, (.d (.sl 3 (p0.map cGValue)))), (15, (vI x4)), (14, (.msl 7 3 0 y5.length y5.length)), (11, (vB (decide (x4 < (ln p0))))), (10, (vI (ln p0))), (9, (.d (.sl 3 (p0.map cGValue)))), (8, (vI x4)), (0, (.d (.sl 3 (p0.map cGValue)))), (3, (.msl 7 3 0 y5.length y5.length)), (4, (vI x4))], [(7, rowsV (y5.map cGValue))]⟩
   exact st 3 a8 (ni (loop_back (s' := stwToValueS_L0 p0 (IntKind.wrap .i64 (x4 + 1)) y5) (wr [] (es (es (es er_nil))) (br_rows (by kernel_rfl) br_nil)) (OK_wToValueS_L0 (IntKind.wrap .i64 (x4 + 1)) y5 _ h)))
   refine ei (te (te (bh (xi (so ?_)))))
   let a9 : St := a5.p [(2, (.msl 7 3 0 b7_0.length b7_0.length)), (22, (.msl 7 3 0 b7_0.length b7_0.length))]
   refine st 2 a9 (nx (ret_frz (n := 7) (sz := 3) (l := b7_0) (f := cGValue) (s' := ⟨[(2, (.d (.sl 3 (b7_0.map cGValue))))], []⟩) (by decide) (fun y => (congrArg List.length ((fun _ => rfl) y)).trans rfl) (by kernel_rfl) (⟨.inr ⟨b7_0.length, b7_0.length, by kernel_rfl, lms b7_0 _, by kernel_rfl⟩, trivial⟩) (trivial) (ri ?_)))
   injection h with h; subst h
   exact r1 (v := (.d (.sl 3 (b7_0.map cGValue))))
theorem OK_wToValueS_L0 (p0 : (List GValue)) (x4 : Int) (b7_0 : (List GValue)) (r : (List GValue)) (h : wToValueS_L0 p0 x4 b7_0 = some r) : avc Tryd.prog acwToValueS_L0 (qwToValueS_1 r) (stwToValueS_L0 p0 x4 b7_0) := (OKs_wToValueS_L0 p0) x4 b7_0 r h
theorem OK_wToValueS (p0 : (List GValue)) : FOk Tryd.prog 11 [(.d (.sl 3 (p0.map cGValue)))] (fun y => (.d (.sl 3 (y.map cGValue)))) (wToValueS p0) := by
 intro r h
 rw [wToValueS] at h
 refine aof trwToValueS ?_
 show avc Tryd.prog acwToValueS (qwToValueS _) ⟨[(0, (.d (.sl 3 (p0.map cGValue))))], []⟩
 delta acwToValueS
 refine so ?_
 let a0 : St := ⟨[(2, (.nil 3)), (0, (.d (.sl 3 (p0.map cGValue))))], []⟩
 refine st 1 a0 (nx (so ?_))
 let a1 : St := a0.p [(5, (.d (.sl 3 (p0.map cGValue))))]
 refine st 1 a1 (ps (vI (ln p0)) (vln (sz := 3) (l := p0) (f := cGValue)) ?_)
 refine mks_step (k := .i64) (k' := .i64) (z := ((GValue.mk 0 0 []) : GValue)) (f := cGValue) (S' := fun y => ⟨(7, (.msl 7 3 0 y.length y.length)) :: (6, (vI (ln p0))) :: a1.env, [(7, rowsV (y.map cGValue))]⟩) h (by kernel_rfl) (by kernel_rfl) (by kernel_rfl) (by kernel_rfl) (by kernel_rfl) (fun y => by kernel_rfl) ?_
 clear h; intro y1 h
 let a2 : St := ⟨(3, (.msl 7 3 0 y1.length y1.length)) :: (7, (.msl 7 3 0 y1.length y1.length)) :: (6, (vI (ln p0))) :: a1.env, [(7, rowsV (y1.map cGValue))]⟩
 refine st 1 a2 (nx (si (so ?_)))
 let a3 : St := a2.p [(4, (vI 0))]
 exact st 1 a3 (nx (bi (loop_go (s' := stwToValueS_L0 p0 0 y1) (wr [] (es (es (es er_nil))) (br_rows (by kernel_rfl) br_nil)) (OK_wToValueS_L0 p0 0 y1 _ h))))
theorem OKs_wToValueSS_L0 (p0 : (List (List GValue))) : (∀ (x4 : Int) (b7_0 : (List (List GValue))) (r : (List (List GValue))), wToValueSS_L0 p0 x4 b7_0 = some r → avc Tryd.prog acwToValueSS_L0 (qwToValueSS_1 r) (stwToValueSS_L0 p0 x4 b7_0)) := by
 refine wToValueSS_L0.partial_correctness p0 (fun x4 b7_0 r => avc Tryd.prog acwToValueSS_L0 (qwToValueSS_1 r) (stwToValueSS_L0 p0 x4 b7_0)) ?_
 · intro F_wToValueSS_L0 OK_wToValueSS_L0 x4 b7_0 r h
   delta acwToValueSS_L0
   refine loop_unroll (si (so ?_))
   let a4 : St := (stwToValueSS_L0 p0 x4 b7_0).p [(9, (.d (.sl 1 (p0.map (cSl 3 cGValue))))), (8, (vI x4))]
   refine st 2 a4 (ps (vI (ln p0)) (vln (sz := 1) (l := p0) (f := (cSl 3 cGValue))) ?_)
   let a5 : St := a4.p [(11, (vB (decide (x4 < (ln p0))))), (10, (vI (ln p0)))]
   refine st 1 a5 (nx ?_)
   refine cd h (fun h => ?_) fun h => ?_
   refine ki (xi (si (bi (oi ?_))))
   let a6 : St := a5.p [(17, (vI x4)), (16, (.d (.sl 1 (p0.map (cSl 3 cGValue))))), (15, (vI x4)), (14, (.msl 7 1 0 b7_0.length b7_0.length))]
   refine st 4 a6 (vs (fun (y : (List GValue)) => (.rp [(.sl 3 (y.map cGValue))])) h (fun y hy => via (l := p0) (f := (cSl 3 cGValue)) (g := (cSl 3 cGValue)) (k := .i64) hy (fun _ => rfl)) fun y2 h => ?_)
   let a7 : St := a6.p [(19, (.d (.sl 3 (y2.map cGValue)))), (18, (.rp [(.sl 3 (y2.map cGValue))]))]
   refine st 1 a7 (cs h (OK_wToValueS y2) fun y3 h => (vs (fun (y : (List GValue)) => (.ptr 7 ((0 + (x4).toNat) * 1))) h (fun y hy => vop_iaE (l := b7_0) (k := .i64) hy (by kernel_rfl) (by kernel_rfl) (by kernel_rfl)) fun y4 h => ?_))
   refine sti_step (b := 7) (i := x4) (l := b7_0) (v := y3) (f := (cSl 3 cGValue)) (u := (.d (.sl 3 (y3.map cGValue)))) (T := fun y m => ⟨[(21, (.ptr 7 ((0 + (x4).toNat) * 1))), (20, (.d (.sl 3 (y3.map cGValue)))), (19, (.d (.sl 3 (y2.map cGValue)))), (18, (.rp [(.sl 3 (y2.map cGValue))])), (17, (vI x4)), (16, (.d (.sl 1 (p0.map (cSl 3 cGValue))))), (15, (vI x4)), (14, (.msl 7 1 0 m m)), (11, (vB (decide (x4 < (ln p0))))), (10, (vI (ln p0))), (9, (.d (.sl 1 (p0.map (cSl 3 cGValue))))), (8, (vI x4)), (0, (.d (.sl 1 (p0.map (cSl 3 cGValue))))), (3, (.msl 7 1 0 m m)), (4, (vI x4))], [(7, rowsV (y.map (cSl 3 cGValue)))]⟩) h (by kernel_rfl) (by kernel_rfl) (by kernel_rfl) (by kernel_rfl) (fun y => (congrArg List.length ((fun _ => rfl) y)).trans rfl) (by kernel_rfl) (fun y => by kernel_rfl) ?_
   clear h; intro y5 h
   refine ni (bn (xi (oi ?_)))
   let a8 : St := ⟨[(4, (vI (IntKind.wrap .i64 (x4 + 1)))), (13, (vI (IntKind.wrap .i64 (x4 + 1)))), (12, (vI x4)), (21, (.ptr 7 ((0 + (x4).toNat) * 1))), (20, (.d (.sl 3 (y3.map cGValue)))), (19, (.d (.sl 3 (y2.map cGValue)))), (18, (.rp [(.sl 3 (y2.map cGValue))])), (17, (vI x4)), (16, (.d (.sl 1 (p0.map (cSl 3 cGValue))))), (15, (vI x4)), (14, (.msl 7 1 0 y5.length y5.length)), (11, (vB (decide (x4 < (ln p0))))), (10, (vI (ln p0))), (9, (.d (.sl 1 (p0.map (cSl 3 cGValue))))), (8, (vI x4)), (0, (.d (.sl 1 (p0.map (cSl 3 cGValue))))), (3, (.msl 7 1 0 y5.length y5.length)), (4, (vI x4))], [(7, rowsV (y5.map (cSl 3 cGValue)))]⟩
   exact st 3 a8 (ni (loop_back (s' := stwToValueSS_L0 p0 (IntKind.wrap .i64 (x4 + 1)) y5) (wr [] (es (es (es er_nil))) (br_rows (by kernel_rfl) br_nil)) (OK_wToValueSS_L0 (IntKind.wrap .i64 (x4 + 1)) y5 _ h)))
   refine ei (te (te (bh (xi (so ?_)))))
   let a9 : St := a5.p [(2, (.msl 7 1 0 b7_0.length b7_0.length)), (22, (.msl 7 1 0 b7_0.length b7_0.length))]
   refine st 2 a9 (nx (ret_frz (n := 7) (sz := 1) (l := b7_0) (f := (cSl 3 cGValue)) (s' := ⟨[(2, (.d (.sl 1 (b7_0.map (cSl 3 cGValue)))))], []⟩) (by decide) (fun y => (congrArg List.length ((fun _ => rfl) y)).trans rfl) (by kernel_rfl) (⟨.inr ⟨b7_0.length, b7_0.length, by kernel_rfl, lms b7_0 _, by kernel_rfl⟩, trivial⟩) (trivial) (ri ?_)))
   injection h with h; subst h
   exact r1 (v := (.d (.sl 1 (b7_0.map (cSl 3 cGValue)))))
theorem OK_wToValueSS_L0 (p0 : (List (List GValue))) (x4 : Int) (b7_0 : (List (List GValue))) (r : (List (List GValue))) (h : wToValueSS_L0 p0 x4 b7_0 = some r) : avc Tryd.prog acwToValueSS_L0 (qwToValueSS_1 r) (stwToValueSS_L0 p0 x4 b7_0) := (OKs_wToValueSS_L0 p0) x4 b7_0 r h
theorem OK_wToValueSS (p0 : (List (List GValue))) : FOk Tryd.prog 6 [(.d (.sl 1 (p0.map (cSl 3 cGValue))))] (fun y => (.d (.sl 1 (y.map (cSl 3 cGValue))))) (wToValueSS p0) := by
 intro r h
 rw [wToValueSS] at h
 refine aof trwToValueSS ?_
 show avc Tryd.prog acwToValueSS (qwToValueSS _) ⟨[(0, (.d (.sl 1 (p0.map (cSl 3 cGValue)))))], []⟩
 delta acwToValueSS
 refine so ?_
 let a0 : St := ⟨[(2, (.nil 1)), (0, (.d (.sl 1 (p0.map (cSl 3 cGValue)))))], []⟩
 refine st 1 a0 (nx (so ?_))
 let a1 : St := a0.p [(5, (.d (.sl 1 (p0.map (cSl 3 cGValue)))))]
 refine st 1 a1 (ps (vI (ln p0)) (vln (sz := 1) (l := p0) (f := (cSl 3 cGValue))) ?_)
 refine mks_step (k := .i64) (k' := .i64) (z := (([] : List GValue) : (List GValue))) (f := (cSl 3 cGValue)) (S' := fun y => ⟨(7, (.msl 7 1 0 y.length y.length)) :: (6, (vI (ln p0))) :: a1.env, [(7, rowsV (y.map (cSl 3 cGValue)))]⟩) h (by kernel_rfl) (by kernel_rfl) (by kernel_rfl) (by kernel_rfl) (by kernel_rfl) (fun y => by kernel_rfl) ?_
 clear h; intro y1 h
 let a2 : St := ⟨(3, (.msl 7 1 0 y1.length y1.length)) :: (7, (.msl 7 1 0 y1.length y1.length)) :: (6, (vI (ln p0))) :: a1.env, [(7, rowsV (y1.map (cSl 3 cGValue)))]⟩
 refine st 1 a2 (nx (si (so ?_)))
 let a3 : St := a2.p [(4, (vI 0))]
 exact st 1 a3 (nx (bi (loop_go (s' := stwToValueSS_L0 p0 0 y1) (wr [] (es (es (es er_nil))) (br_rows (by kernel_rfl) br_nil)) (OK_wToValueSS_L0 p0 0 y1 _ h))))
theorem OK_wFnExactRowsText (p0 : (List (List GValue))) : FOk Tryd.prog 3 [(.d (.sl 1 (p0.map (cSl 3 cGValue))))] (fun y => (vB y)) (wFnExactRowsText p0) := by
 intro r h
 rw [wFnExactRowsText] at h
 refine aof trwFnExactRowsText ?_
 show avc Tryd.prog acwFnExactRowsText (qwFnExactRowsText _) ⟨[(0, (.d (.sl 1 (p0.map (cSl 3 cGValue)))))], []⟩
 delta acwFnExactRowsText
 refine so ?_
 let a0 : St := ⟨[(2, (vB false)), (0, (.d (.sl 1 (p0.map (cSl 3 cGValue)))))], []⟩
 refine st 1 a0 (nx (so ?_))
 let a1 : St := a0.p [(3, (vI 1048576))]
 refine st 1 a1 (nx (so ?_))
 let a2 : St := a1.p [(8, (vI 1048576)), (7, (.d (.sl 1 (p0.map (cSl 3 cGValue)))))]
 refine st 2 a2 (cs h (OK_wSzValueSS p0 1048576) fun y1 h => ?_)
 let a3 : St := a2.p [(3, (vI y1)), (9, (vI y1))]
 refine st 1 a3 (nx (si (so ?_)))
 let a4 : St := a3.p [(11, (vB (decide (y1 < 0)))), (10, (vI y1))]
 refine st 2 a4 (nx ?_)
 refine cd h (fun h => ?_) fun h => ?_
 refine so ?_
 let a5 : St := a4.p [(2, (vB true))]
 refine st 1 a5 (nx (ri (tr ?_)))
 injection h with h; subst h
 exact r1 (v := (vB true))
 refine ki (xi (so ?_))
 let a6 : St := a4.p [(12, (.d (.sl 1 (p0.map (cSl 3 cGValue)))))]
 refine st 1 a6 (cs h (OK_wToValueSS p0) fun y2 h => (cs h (OK_sRowsText y2) fun y3 h => ?_))
 let a7 : St := a6.p [(4, (vS y3)), (14, (vS y3)), (13, (.d (.sl 1 (y2.map (cSl 3 cGValue)))))]
 refine st 1 a7 (nx (so ?_))
 let a8 : St := a7.p [(15, (.d (.sl 1 (p0.map (cSl 3 cGValue)))))]
 refine st 1 a8 (cs h (OK_wToValueSS p0) fun y4 h => ?_)
 let a9 : St := a8.p [(5, (.d (.sl 1 (y4.map (cSl 3 cGValue))))), (16, (.d (.sl 1 (y4.map (cSl 3 cGValue)))))]
 refine st 1 a9 (nx (so ?_))
 let a10 : St := a9.p [(17, (.d (.sl 1 (y4.map (cSl 3 cGValue)))))]
 refine st 1 a10 (cs h (OK_iRowsText y4) fun y5 h => ?_)
 let a11 : St := a10.p [(6, (vS y5)), (18, (vS y5))]
 refine st 1 a11 (nx (si (so ?_)))
 let a12 : St := a11.p [(21, (vB (!decide (y5 = y3)))), (20, (vS y3)), (19, (vS y5))]
 refine st 3 a12 (nx ?_)
 refine cd h (fun h => ?_) fun h => ?_
 refine so ?_
 let a13 : St := a12.p [(2, (vB false))]
 refine st 1 a13 (nx (ri (tr ?_)))
 injection h with h; subst h
 exact r1 (v := (vB false))
 refine ki (xi (si (so ?_)))
 let a14 : St := a12.p [(23, (.d (.sl 1 (p0.map (cSl 3 cGValue))))), (22, (.d (.sl 1 (y4.map (cSl 3 cGValue)))))]
 refine st 2 a14 (cs h (OK_wToValueSS p0) fun y6 h => (cs h (OK_wEqValueSS y4 y6) fun y7 h => ?_))
 let a15 : St := a14.p [(26, (vB (!y7))), (25, (vB y7)), (24, (.d (.sl 1 (y6.map (cSl 3 cGValue)))))]
 refine st 1 a15 (nx ?_)
 refine cd h (fun h => ?_) fun h => ?_
 refine so ?_
 let a16 : St := a15.p [(2, (vB false))]
 refine st 1 a16 (nx (ri (tr ?_)))
 injection h with h; subst h
 exact r1 (v := (vB false))
 refine ki (xi (so ?_))
 let a17 : St := a15.p [(2, (vB true))]
 refine st 1 a17 (nx (ri ?_))
 injection h with h; subst h
 exact r1 (v := (vB true))
theorem law_wFnExactRowsText (hp : ∀ (x0 : (List (List GValue))) (_ : (okL (okL okGValue)) x0), wFnExactRowsText x0 = some true) (ls : List (List D)) (hw : WtA Tryd.prog [22] ls) (hok : ∀ l ∈ ls, ∀ x ∈ l, OkD x) : ACalls Tryd.prog 3 (argsV Tryd.prog [22] ls) [] fun x _ => x = .d (.b true) := by
  rcases hw with _ | ⟨h0, hw⟩
  cases hw
  obtain ⟨x0, rfl⟩ := de22 h0
  have a0 : argV Tryd.prog 22 ((cSl 1 (cSl 3 cGValue)) x0) = (.d (.sl 1 (x0.map (cSl 3 cGValue)))) := by kernel_rfl
  have k0 : ∀ d ∈ (cSl 1 (cSl 3 cGValue)) x0, OkD d := hok _ (by simp)
  simp only [argsV, a0]
  exact OK_wFnExactRowsText x0 true (hp x0 (ko_l _ (fun y hy => ko_l _ (fun y hy => koGValue y hy) hy) k0))
end Go.Proofs.YtgmnnlkhmpceiabDoor
