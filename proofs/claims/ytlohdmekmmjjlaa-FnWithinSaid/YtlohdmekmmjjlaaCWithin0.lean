/- That the code computes these functions (printed by a program). -/
import Derived.KernelRfl
import Derived.Test.YtlohdmekmmjjlaaAbG2
import Derived.Test.YtlohdmekmmjjlaaAbC2
import Derived.Test.YtlohdmekmmjjlaaFWithin
import Derived.Test.YtlohdmekmmjjlaaProg
namespace Go.Proofs.Ytlohdmekmmjjlaa
open Go Go.RowKit Go.Ab
def cI (n : Int) : List D := [.i .i64 n]
def cU8 (n : Int) : List D := [.i .u8 n]
def cU64 (n : Int) : List D := [.i .u64 n]
def cI32 (n : Int) : List D := [.i .i32 n]
def cU32 (n : Int) : List D := [.i .u32 n]
def cB (b : Bool) : List D := [.b b]
def cStr (s : List UInt8) : List D := [.s (bs s)]
def cSl {α : Type} (sz : Nat) (f : α → List D) (l : List α) : List D := [.sl sz (l.map f)]
def cGValue (x : GValue) : List D := [(.i .i64 x.kind), (.i .i64 x.num), (.s (bs x.text))]
def vGValue (x : GValue) : V := .agg (cGValue x)
def bGValue (x : GValue) : List V := (cGValue x).map V.d
def cGL1Cur (x : GL1Cur) : List D := [(.sl 1 (x.b.map cU8)), (.i .i64 x.i), (.i .i64 x.h)]
def vGL1Cur (x : GL1Cur) : V := .agg (cGL1Cur x)
def bGL1Cur (x : GL1Cur) : List V := (cGL1Cur x).map V.d
def acwFnWithin_L0 : AC := (.loop (.seq (.seq (.ops [.mv 39 (.t 11), .mv 40 (.t 4), .len 41 (.t 40), .bin 42 .lss (.t 39) (.t 41)]) (.cond (.t 42) .skip (.exit 0))) (.seq (.block 1 (.seq (.ops [.mv 45 (.t 10), .mv 46 (.t 45), .g 46 false (.mv 47 (.t 4)), .g 46 false (.mv 48 (.t 11)), .g 46 false (.ia 49 3 (.t 47) (.t 48)), .g 46 false (.fa 50 0 (.t 49)), .g 46 false (.ld 51 1 false (.t 50)), .g 46 false (.bin 52 .eql (.t 51) (.c (.d (.i .i64 0)))), .pick 53 (.t 46) (.c (.d (.b true))) (.t 52), .mv 54 (.t 53), .g 54 false (.fa 55 0 (.t 3)), .g 54 false (.ld 56 1 false (.t 55)), .g 54 false (.bin 57 .eql (.t 56) (.c (.d (.i .i64 0)))), .pick 58 (.t 54) (.c (.d (.b true))) (.t 57), .asg 10 (.t 58)]) (.dops [[], [0], [1], [1], [2, 3, 1], [4, 1], [1], [5, 6, 1], [7, 1, 1], [8], [9, 8], [10, 8], [8, 11, 1], [1, 12], [13, 8, 0, 1, 2, 3, 4, 5, 6, 7, 8, 9, 10, 11, 12, 13]] [.mv 59 (.t 9), .mv 60 (.t 59), .g 60 false (.mv 61 (.t 4)), .g 60 false (.mv 62 (.t 11)), .g 60 false (.ia 63 3 (.t 61) (.t 62)), .g 60 false (.ld 64 3 true (.t 63)), .g 60 false (.ld 65 3 true (.t 3)), .g 60 false (.eqv 66 false [0, 0, 1] (.t 64) (.t 65)), .g 60 false (.mv 67 (.t 66)), .g 67 true (.fa 68 0 (.t 3)), .g 67 true (.ld 69 1 false (.t 68)), .g 67 true (.bin 70 .neq (.t 69) (.c (.d (.i .i64 0)))), .g 60 false (.pick 71 (.t 67) (.t 70) (.c (.d (.b false)))), .pick 72 (.t 60) (.c (.d (.b true))) (.t 71), .asg 9 (.t 72)]))) (.ops [.mv 43 (.t 11), .bin 44 .add (.t 43) (.c (.d (.i .i64 1))), .asg 11 (.t 44)]))))
def acwFnWithin : AC := (.seq (.ops [.asg 2 (.c (.d (.b false)))]) (.seq (.seq (.ops [.mv 12 (.t 0), .call (some 13) 14 [(.t 12)]]) (.cond (.t 13) (.seq (.ops [.asg 2 (.c (.d (.b true)))]) .ret) .skip)) (.seq (.ops [.mv 15 (.t 0), .call (some 16) 55 [(.t 15)], .mv 14 (.t 16), .ext 17 (.t 14) 0, .ext 18 (.t 14) 1, .alc 3 [(.d (.i .i64 0)), (.d (.i .i64 0)), (.d (.s (bs [])))], .st 3 (.t 3) (.t 17), .asg 4 (.t 18)]) (.seq (.ops [.ld 20 3 true (.t 3), .mv 21 (.t 4), .call (some 22) 33 [(.t 20), (.t 21)], .mv 19 (.t 22), .ext 23 (.t 19) 0, .ext 24 (.t 19) 1, .alc 5 [(.d (.i .i64 0)), (.d (.i .i64 0)), (.d (.s (bs [])))], .st 3 (.t 5) (.t 23), .asg 6 (.t 24)]) (.seq (.ops [.ld 26 3 true (.t 3), .mv 27 (.t 4), .call (some 28) 31 [(.t 26), (.t 27)], .mv 25 (.t 28), .ext 29 (.t 25) 0, .ext 30 (.t 25) 1, .alc 7 [(.d (.i .i64 0)), (.d (.i .i64 0)), (.d (.s (bs [])))], .st 3 (.t 7) (.t 29), .asg 8 (.t 30)]) (.seq (.seq (.ops [.mv 31 (.t 6), .mv 32 (.t 8), .bin 33 .neq (.t 31) (.t 32)]) (.cond (.t 33) (.seq (.ops [.asg 2 (.c (.d (.b false)))]) .ret) .skip)) (.seq (.seq (.ops [.mv 34 (.t 6), .bin 35 .neq (.t 34) (.c (.d (.i .i64 0)))]) (.cond (.t 35) (.seq (.ops [.ld 36 3 true (.t 5), .bld 37 [(.d (.i .i64 0)), (.d (.i .i64 0)), (.d (.s (bs [])))] [], .eqv 38 false [0, 0, 1] (.t 36) (.t 37), .asg 2 (.t 38)]) .ret) .skip)) (.seq (.ops [.asg 9 (.c (.d (.b false)))]) (.seq (.ops [.asg 10 (.c (.d (.b false)))]) (.seq (.seq (.ops [.asg 11 (.c (.d (.i .i64 0)))]) (.block 0 acwFnWithin_L0)) (.seq (.dops [[], [0], [1], [1, 1], [2, 3, 1], [1, 4], [5, 3], [6], [7, 6], [8, 6, 6], [9], [9, 10, 6], [11, 9, 6], [12], [12], [13, 14, 12], [12, 15, 6], [6, 16], [17, 12], [18], [19, 18], [20, 18, 18], [21], [22, 21], [21, 23, 18], [24, 21, 18], [25], [25, 25], [26, 27, 25], [25, 28, 18], [18, 29], [30, 27, 0, 1, 2, 3, 4, 5, 6, 7, 8, 9, 10, 11, 12, 13, 14, 15, 16, 17, 18, 19, 20, 21, 22, 23, 24, 25, 26, 27, 28, 29, 30]] [.mv 73 (.t 9), .mv 74 (.t 73), .g 74 true (.ld 75 3 true (.t 5)), .g 74 true (.call (some 76) 37 [(.c (.d (.b true)))]), .g 74 true (.eqv 77 false [0, 0, 1] (.t 75) (.t 76)), .pick 78 (.t 74) (.t 77) (.c (.d (.b false))), .mv 79 (.t 78), .g 79 false (.mv 80 (.t 9)), .g 79 false (.not 81 (.t 80)), .g 79 false (.mv 82 (.t 81)), .g 82 true (.mv 83 (.t 10)), .g 79 false (.pick 84 (.t 82) (.t 83) (.c (.d (.b false)))), .g 79 false (.mv 85 (.t 84)), .g 85 true (.ld 86 3 true (.t 5)), .g 85 true (.bld 87 [(.d (.i .i64 0)), (.d (.i .i64 0)), (.d (.s (bs [])))] []), .g 85 true (.eqv 88 false [0, 0, 1] (.t 86) (.t 87)), .g 79 false (.pick 89 (.t 85) (.t 88) (.c (.d (.b false)))), .pick 90 (.t 79) (.c (.d (.b true))) (.t 89), .mv 91 (.t 90), .g 91 false (.mv 92 (.t 9)), .g 91 false (.not 93 (.t 92)), .g 91 false (.mv 94 (.t 93)), .g 94 true (.mv 95 (.t 10)), .g 94 true (.not 96 (.t 95)), .g 91 false (.pick 97 (.t 94) (.t 96) (.c (.d (.b false)))), .g 91 false (.mv 98 (.t 97)), .g 98 true (.ld 99 3 true (.t 5)), .g 98 true (.call (some 100) 37 [(.c (.d (.b false)))]), .g 98 true (.eqv 101 false [0, 0, 1] (.t 99) (.t 100)), .g 91 false (.pick 102 (.t 98) (.t 101) (.c (.d (.b false)))), .pick 103 (.t 91) (.c (.d (.b true))) (.t 102), .asg 2 (.t 103)]) .ret)))))))))))
theorem trwFnWithin : trFn Try.prog 11 = some (acwFnWithin, [.mv 0 (.t 2)], 104) := by kernel_rfl
def qwFnWithin (r : Bool) : Exit → St → Prop := retQ [.mv 0 (.t 2)] fun x _ => x = (fun y => (.d (.b y))) r
def qwFnWithin_0 (r : Bool) : Exit → St → Prop := (thenK (wkK (avc Try.prog (.seq (.dops [[], [0], [1], [1, 1], [2, 3, 1], [1, 4], [5, 3], [6], [7, 6], [8, 6, 6], [9], [9, 10, 6], [11, 9, 6], [12], [12], [13, 14, 12], [12, 15, 6], [6, 16], [17, 12], [18], [19, 18], [20, 18, 18], [21], [22, 21], [21, 23, 18], [24, 21, 18], [25], [25, 25], [26, 27, 25], [25, 28, 18], [18, 29], [30, 27, 0, 1, 2, 3, 4, 5, 6, 7, 8, 9, 10, 11, 12, 13, 14, 15, 16, 17, 18, 19, 20, 21, 22, 23, 24, 25, 26, 27, 28, 29, 30]] [.mv 73 (.t 9), .mv 74 (.t 73), .g 74 true (.ld 75 3 true (.t 5)), .g 74 true (.call (some 76) 37 [(.c (.d (.b true)))]), .g 74 true (.eqv 77 false [0, 0, 1] (.t 75) (.t 76)), .pick 78 (.t 74) (.t 77) (.c (.d (.b false))), .mv 79 (.t 78), .g 79 false (.mv 80 (.t 9)), .g 79 false (.not 81 (.t 80)), .g 79 false (.mv 82 (.t 81)), .g 82 true (.mv 83 (.t 10)), .g 79 false (.pick 84 (.t 82) (.t 83) (.c (.d (.b false)))), .g 79 false (.mv 85 (.t 84)), .g 85 true (.ld 86 3 true (.t 5)), .g 85 true (.bld 87 [(.d (.i .i64 0)), (.d (.i .i64 0)), (.d (.s (bs [])))] []), .g 85 true (.eqv 88 false [0, 0, 1] (.t 86) (.t 87)), .g 79 false (.pick 89 (.t 85) (.t 88) (.c (.d (.b false)))), .pick 90 (.t 79) (.c (.d (.b true))) (.t 89), .mv 91 (.t 90), .g 91 false (.mv 92 (.t 9)), .g 91 false (.not 93 (.t 92)), .g 91 false (.mv 94 (.t 93)), .g 94 true (.mv 95 (.t 10)), .g 94 true (.not 96 (.t 95)), .g 91 false (.pick 97 (.t 94) (.t 96) (.c (.d (.b false)))), .g 91 false (.mv 98 (.t 97)), .g 98 true (.ld 99 3 true (.t 5)), .g 98 true (.call (some 100) 37 [(.c (.d (.b false)))]), .g 98 true (.eqv 101 false [0, 0, 1] (.t 99) (.t 100)), .g 91 false (.pick 102 (.t 98) (.t 101) (.c (.d (.b false)))), .pick 103 (.t 91) (.c (.d (.b true))) (.t 102), .asg 2 (.t 103)]) .ret) (qwFnWithin r))) (qwFnWithin r))
def qwFnWithin_1 (r : Bool) : Exit → St → Prop := (blockK 0 (qwFnWithin_0 r))
def stwFnWithin_L0 (y2 : GValue × (List GValue)) (y3 : GValue × Int) (x9 : Bool) (x10 : Bool) (x11 : Int) : St := ⟨[(3, (.ptr 3 0)), (4, (.d (.sl 3 (y2.2.map cGValue)))), (5, (.ptr 5 0)), (9, (.d (.b x9))), (10, (.d (.b x10))), (11, (.d (.i .i64 x11)))], [(3, [(.d (.i .i64 y2.1.kind)), (.d (.i .i64 y2.1.num)), (.d (.s (bs y2.1.text)))]), (5, [(.d (.i .i64 y3.1.kind)), (.d (.i .i64 y3.1.num)), (.d (.s (bs y3.1.text)))])]⟩
def acsL1New_L0 : AC := (.loop (.seq (.seq (.ops [.mv 8 (.t 4), .mv 9 (.t 0), .len 10 (.t 9), .bin 11 .lss (.t 8) (.t 10), .mv 12 (.t 11), .g 12 true (.mv 13 (.t 4)), .g 12 true (.bin 14 .lss (.t 13) (.c (.d (.i .i64 4000)))), .pick 15 (.t 12) (.t 14) (.c (.d (.b false)))]) (.cond (.t 15) .skip (.exit 0))) (.seq (.block 1 (.ops [.mv 18 (.t 3), .bin 19 .mul (.t 18) (.c (.d (.i .i64 131))), .mv 20 (.t 0), .mv 21 (.t 4), .ia 22 1 (.t 20) (.t 21), .ld 23 1 false (.t 22), .cvi 24 .i64 (.t 23), .bin 25 .add (.t 19) (.t 24), .bin 26 .add (.t 25) (.c (.d (.i .i64 7))), .bin 27 .and (.t 26) (.c (.d (.i .i64 1073741823))), .asg 3 (.t 27)])) (.ops [.mv 16 (.t 4), .bin 17 .add (.t 16) (.c (.d (.i .i64 1))), .asg 4 (.t 17)]))))
def acsL1New : AC := (.seq (.ops [.asg 2 (.c .np)]) (.seq (.ops [.mv 5 (.t 0), .len 6 (.t 5), .bin 7 .add (.c (.d (.i .i64 28322))) (.t 6), .asg 3 (.t 7)]) (.seq (.seq (.ops [.asg 4 (.c (.d (.i .i64 0)))]) (.block 0 acsL1New_L0)) (.seq (.ops [.mv 28 (.t 0), .mv 29 (.t 3), .bld 30 [(.nil 1), (.d (.i .i64 0)), (.d (.i .i64 0))] [(0, 1, (.t 28)), (2, 1, (.t 29))], .box 31 (.t 30), .asg 2 (.t 31)]) .ret))))
theorem trsL1New : trFn Try.prog 75 = some (acsL1New, [.mv 0 (.t 2)], 32) := by kernel_rfl
def qsL1New (r : GL1Cur) : Exit → St → Prop := retQ [.mv 0 (.t 2)] fun x b => x = (fun (y : GL1Cur) => (.ptr 31 0)) r ∧ bxHas ((fun (y : GL1Cur) => [(31, bGL1Cur y)]) r) b
def qsL1New_0 (r : GL1Cur) : Exit → St → Prop := (thenK (wkK (avc Try.prog (.seq (.ops [.mv 28 (.t 0), .mv 29 (.t 3), .bld 30 [(.nil 1), (.d (.i .i64 0)), (.d (.i .i64 0))] [(0, 1, (.t 28)), (2, 1, (.t 29))], .box 31 (.t 30), .asg 2 (.t 31)]) .ret) (qsL1New r))) (qsL1New r))
def qsL1New_1 (r : GL1Cur) : Exit → St → Prop := (blockK 0 (qsL1New_0 r))
def stsL1New_L0 (p0 : (List Int)) (x3 : Int) (x4 : Int) : St := ⟨[(0, (.d (.sl 1 (p0.map cU8)))), (3, (.d (.i .i64 x3))), (4, (.d (.i .i64 x4)))], []⟩
def acsWithin_L0 : AC := (.loop (.seq (.seq (.ops [.mv 11 (.t 7), .mv 12 (.t 1), .len 13 (.t 12), .bin 14 .lss (.t 11) (.t 13)]) (.cond (.t 14) .skip (.exit 0))) (.seq (.block 1 (.seq (.dops [[], [], [], [1, 2], [3], [0, 4], [5], [6], [6], [], [9, 7, 5, 0, 1, 2, 3, 4, 5, 6, 7, 9], [8, 10, 0, 1, 2, 3, 4, 5, 6, 7, 8, 9, 10]] [.ld 18 3 true (.t 2), .mv 19 (.t 1), .mv 20 (.t 7), .ia 21 3 (.t 19) (.t 20), .ld 22 3 true (.t 21), .call (some 23) 66 [(.c (.d (.i .i64 3))), (.t 18), (.t 22)], .mv 17 (.t 23), .ext 24 (.t 17) 0, .ext 25 (.t 17) 1, .alc 8 [(.d (.i .i64 0)), (.d (.i .i64 0)), (.d (.s (bs [])))], .st 3 (.t 8) (.t 24), .asg 9 (.t 25)]) (.seq (.seq (.ops [.mv 26 (.t 9), .bin 27 .neq (.t 26) (.c (.d (.i .i64 0)))]) (.cond (.t 27) (.seq (.ops [.bld 28 [(.d (.i .i64 0)), (.d (.i .i64 0)), (.d (.s (bs [])))] [], .mv 29 (.t 9), .st 3 (.t 4) (.t 28), .asg 5 (.t 29)]) .ret) .skip)) (.ops [.ld 31 3 true (.t 6), .ld 32 3 true (.t 8), .call (some 33) 66 [(.c (.d (.i .i64 1))), (.t 31), (.t 32)], .mv 30 (.t 33), .ext 34 (.t 30) 0, .ext 35 (.t 30) 1, .st 3 (.t 6) (.t 34)])))) (.ops [.mv 15 (.t 7), .bin 16 .add (.t 15) (.c (.d (.i .i64 1))), .asg 7 (.t 16)]))))
def acsWithin : AC := (.seq (.ops [.box 2 (.t 0), .alc 4 [(.d (.i .i64 0)), (.d (.i .i64 0)), (.d (.s (bs [])))], .asg 5 (.c (.d (.i .i64 0)))]) (.seq (.ops [.call (some 10) 37 [(.c (.d (.b false)))], .alc 6 [(.d (.i .i64 0)), (.d (.i .i64 0)), (.d (.s (bs [])))], .st 3 (.t 6) (.t 10)]) (.seq (.seq (.ops [.asg 7 (.c (.d (.i .i64 0)))]) (.block 0 acsWithin_L0)) (.seq (.ops [.ld 36 3 true (.t 6), .st 3 (.t 4) (.t 36), .asg 5 (.c (.d (.i .i64 0)))]) .ret))))
theorem trsWithin : trFn Try.prog 31 = some (acsWithin, [.ld 0 3 true (.t 4), .mv 0 (.t 5)], 37) := by kernel_rfl
def qsWithin (r : GValue × Int) : Exit → St → Prop := retQ [.ld 0 3 true (.t 4), .mv 0 (.t 5)] fun x _ => x = (fun y => (.tup [(vGValue y.1), (.d (.i .i64 y.2))])) r
def qsWithin_0 (r : GValue × Int) : Exit → St → Prop := (thenK (wkK (avc Try.prog (.seq (.ops [.ld 36 3 true (.t 6), .st 3 (.t 4) (.t 36), .asg 5 (.c (.d (.i .i64 0)))]) .ret) (qsWithin r))) (qsWithin r))
def qsWithin_1 (r : GValue × Int) : Exit → St → Prop := (blockK 0 (qsWithin_0 r))
def stsWithin_L0 (p1 : (List GValue)) (p0 : GValue) (x7 : Int) (b6_0 : Int) (b6_1 : Int) (b6_2 : (List UInt8)) : St := ⟨[(1, (.d (.sl 3 (p1.map cGValue)))), (2, (.ptr 2 0)), (4, (.ptr 4 0)), (6, (.ptr 6 0)), (7, (.d (.i .i64 x7)))], [(2, [(.d (.i .i64 p0.kind)), (.d (.i .i64 p0.num)), (.d (.s (bs p0.text)))]), (4, [(.d (.i .i64 0)), (.d (.i .i64 0)), (.d (.s (bs [])))]), (6, [(.d (.i .i64 b6_0)), (.d (.i .i64 b6_1)), (.d (.s (bs b6_2)))])]⟩
def acsBoolValue : AC := (.seq (.ops [.alc 2 [(.d (.i .i64 0)), (.d (.i .i64 0)), (.d (.s (bs [])))]]) (.seq (.seq (.ops [.mv 3 (.t 0)]) (.cond (.t 3) (.seq (.ops [.bld 4 [(.d (.i .i64 0)), (.d (.i .i64 0)), (.d (.s (bs [])))] [(0, 1, (.c (.d (.i .i64 3)))), (1, 1, (.c (.d (.i .i64 1))))], .st 3 (.t 2) (.t 4)]) .ret) .skip)) (.seq (.ops [.bld 5 [(.d (.i .i64 0)), (.d (.i .i64 0)), (.d (.s (bs [])))] [(0, 1, (.c (.d (.i .i64 3))))], .st 3 (.t 2) (.t 5)]) .ret)))
theorem trsBoolValue : trFn Try.prog 37 = some (acsBoolValue, [.ld 0 3 true (.t 2)], 6) := by kernel_rfl
def qsBoolValue (r : GValue) : Exit → St → Prop := retQ [.ld 0 3 true (.t 2)] fun x _ => x = (fun y => (vGValue y)) r
def acsCalc_J0 : AC := (.cond (.t 112) (.seq (.ops [.mv 115 (.t 0), .fa 116 1 (.t 4), .ld 117 1 false (.t 116), .fa 118 1 (.t 5), .ld 119 1 false (.t 118), .call (some 120) 131 [(.t 115), (.t 117), (.t 119)], .ext 121 (.t 120) 0, .ext 122 (.t 120) 1, .st 3 (.t 6) (.t 121), .asg 7 (.t 122)]) .ret) .skip)
def acsCalc : AC := (.seq (.ops [.box 4 (.t 1), .box 5 (.t 2), .alc 6 [(.d (.i .i64 0)), (.d (.i .i64 0)), (.d (.s (bs [])))], .asg 7 (.c (.d (.i .i64 0)))]) (.seq (.seq (.ops [.mv 14 (.t 0), .call (some 15) 121 [(.t 14), (.c (.d (.i .i64 1))), (.c (.d (.i .i64 14)))], .not 16 (.t 15), .mv 17 (.t 16), .g 17 false (.ld 18 3 true (.t 4)), .g 17 false (.call (some 19) 122 [(.t 18)]), .g 17 false (.not 20 (.t 19)), .pick 21 (.t 17) (.c (.d (.b true))) (.t 20), .mv 22 (.t 21), .g 22 false (.ld 23 3 true (.t 5)), .g 22 false (.call (some 24) 122 [(.t 23)]), .g 22 false (.not 25 (.t 24)), .pick 26 (.t 22) (.c (.d (.b true))) (.t 25)]) (.cond (.t 26) (.seq (.ops [.bld 27 [(.d (.i .i64 0)), (.d (.i .i64 0)), (.d (.s (bs [])))] [], .st 3 (.t 6) (.t 27), .asg 7 (.c (.d (.i .i64 1)))]) .ret) .skip)) (.seq (.seq (.ops [.mv 28 (.t 0), .bin 29 .leq (.t 28) (.c (.d (.i .i64 2)))]) (.cond (.t 29) (.seq (.ops [.mv 30 (.t 0), .ld 31 3 true (.t 4), .ld 32 3 true (.t 5), .call (some 33) 123 [(.t 30), (.t 31), (.t 32)], .ext 34 (.t 33) 0, .ext 35 (.t 33) 1, .st 3 (.t 6) (.t 34), .asg 7 (.t 35)]) .ret) .skip)) (.seq (.seq (.ops [.mv 36 (.t 0), .ld 37 3 true (.t 4), .ld 38 3 true (.t 5), .call (some 39) 124 [(.t 36), (.t 37), (.t 38)], .not 40 (.t 39)]) (.cond (.t 40) (.seq (.ops [.bld 41 [(.d (.i .i64 0)), (.d (.i .i64 0)), (.d (.s (bs [])))] [], .st 3 (.t 6) (.t 41), .asg 7 (.c (.d (.i .i64 1)))]) .ret) .skip)) (.seq (.seq (.ops [.ld 42 3 true (.t 4), .call (some 43) 125 [(.t 42)], .mv 44 (.t 43), .g 44 false (.ld 45 3 true (.t 5)), .g 44 false (.call (some 46) 125 [(.t 45)]), .pick 47 (.t 44) (.c (.d (.b true))) (.t 46)]) (.cond (.t 47) (.seq (.ops [.bld 48 [(.d (.i .i64 0)), (.d (.i .i64 0)), (.d (.s (bs [])))] [], .st 3 (.t 6) (.t 48), .asg 7 (.c (.d (.i .i64 0)))]) .ret) .skip)) (.seq (.seq (.ops [.mv 49 (.t 0)]) (.block 0 (.seq (.ops [.bin 51 .eql (.t 49) (.c (.d (.i .i64 9))), .asg 50 (.t 51)]) (.cond (.t 50) (.seq (.seq (.ops [.fa 52 2 (.t 4), .ld 53 1 false (.t 52), .lns 54 (.t 53), .fa 55 2 (.t 5), .ld 56 1 false (.t 55), .lns 57 (.t 56), .bin 58 .add (.t 54) (.t 57), .bin 59 .gtr (.t 58) (.c (.d (.i .i64 200)))]) (.cond (.t 59) (.seq (.ops [.bld 60 [(.d (.i .i64 0)), (.d (.i .i64 0)), (.d (.s (bs [])))] [], .st 3 (.t 6) (.t 60), .asg 7 (.c (.d (.i .i64 2)))]) .ret) .skip)) (.seq (.ops [.fa 61 2 (.t 4), .ld 62 1 false (.t 61), .fa 63 2 (.t 5), .ld 64 1 false (.t 63), .bin 65 .add (.t 62) (.t 64), .call (some 66) 126 [(.t 65)], .st 3 (.t 6) (.t 66), .asg 7 (.c (.d (.i .i64 0)))]) .ret)) (.seq (.ops [.bin 68 .eql (.t 49) (.c (.d (.i .i64 10))), .asg 67 (.t 68)]) (.cond (.t 67) (.seq (.ops [.fa 70 1 (.t 4), .ld 71 1 false (.t 70), .fa 72 1 (.t 5), .ld 73 1 false (.t 72), .call (some 74) 127 [(.t 71), (.t 73)], .mv 69 (.t 74), .ext 75 (.t 69) 0, .ext 76 (.t 69) 1, .asg 8 (.t 75), .asg 9 (.t 76)]) (.seq (.ops [.mv 77 (.t 8), .mv 78 (.t 9), .call (some 79) 128 [(.t 77), (.t 78)], .ext 80 (.t 79) 0, .ext 81 (.t 79) 1, .st 3 (.t 6) (.t 80), .asg 7 (.t 81)]) .ret)) (.seq (.ops [.bin 83 .eql (.t 49) (.c (.d (.i .i64 11))), .asg 82 (.t 83)]) (.cond (.t 82) (.seq (.ops [.fa 85 1 (.t 4), .ld 86 1 false (.t 85), .fa 87 1 (.t 5), .ld 88 1 false (.t 87), .call (some 89) 129 [(.t 86), (.t 88)], .mv 84 (.t 89), .ext 90 (.t 84) 0, .ext 91 (.t 84) 1, .asg 10 (.t 90), .asg 11 (.t 91)]) (.seq (.ops [.mv 92 (.t 10), .mv 93 (.t 11), .call (some 94) 128 [(.t 92), (.t 93)], .ext 95 (.t 94) 0, .ext 96 (.t 94) 1, .st 3 (.t 6) (.t 95), .asg 7 (.t 96)]) .ret)) (.seq (.ops [.bin 98 .eql (.t 49) (.c (.d (.i .i64 12))), .asg 97 (.t 98)]) (.cond (.t 97) (.seq (.ops [.fa 100 1 (.t 4), .ld 101 1 false (.t 100), .fa 102 1 (.t 5), .ld 103 1 false (.t 102), .call (some 104) 130 [(.t 101), (.t 103)], .mv 99 (.t 104), .ext 105 (.t 99) 0, .ext 106 (.t 99) 1, .asg 12 (.t 105), .asg 13 (.t 106)]) (.seq (.ops [.mv 107 (.t 12), .mv 108 (.t 13), .call (some 109) 128 [(.t 107), (.t 108)], .ext 110 (.t 109) 0, .ext 111 (.t 109) 1, .st 3 (.t 6) (.t 110), .asg 7 (.t 111)]) .ret)) (.seq (.seq (.ops [.bin 113 .eql (.t 49) (.c (.d (.i .i64 13))), .asg 112 (.t 113)]) (.cond (.t 112) .skip (.ops [.bin 114 .eql (.t 49) (.c (.d (.i .i64 14))), .asg 112 (.t 114)]))) acsCalc_J0))))))))))) (.seq (.ops [.mv 123 (.t 0), .ld 124 3 true (.t 4), .ld 125 3 true (.t 5), .call (some 126) 38 [(.t 124), (.t 125)], .call (some 127) 132 [(.t 123), (.t 126)], .call (some 128) 37 [(.t 127)], .st 3 (.t 6) (.t 128), .asg 7 (.c (.d (.i .i64 0)))]) .ret)))))))
theorem trsCalc : trFn Try.prog 66 = some (acsCalc, [.ld 0 3 true (.t 6), .mv 0 (.t 7)], 129) := by kernel_rfl
def qsCalc (r : GValue × Int) : Exit → St → Prop := retQ [.ld 0 3 true (.t 6), .mv 0 (.t 7)] fun x _ => x = (fun y => (.tup [(vGValue y.1), (.d (.i .i64 y.2))])) r
def qsCalc_0 (r : GValue × Int) : Exit → St → Prop := (thenK (wkK (avc Try.prog (.seq (.ops [.mv 123 (.t 0), .ld 124 3 true (.t 4), .ld 125 3 true (.t 5), .call (some 126) 38 [(.t 124), (.t 125)], .call (some 127) 132 [(.t 123), (.t 126)], .call (some 128) 37 [(.t 127)], .st 3 (.t 6) (.t 128), .asg 7 (.c (.d (.i .i64 0)))]) .ret) (qsCalc r))) (qsCalc r))
def qsCalc_1 (r : GValue × Int) : Exit → St → Prop := (blockK 0 (qsCalc_0 r))
def stsCalc_J0 (p0 : Int) (p1 : GValue) (p2 : GValue) (x112 : Bool) : St := ⟨[(0, (.d (.i .i64 p0))), (4, (.ptr 4 0)), (5, (.ptr 5 0)), (6, (.ptr 6 0)), (112, (.d (.b x112)))], [(4, [(.d (.i .i64 p1.kind)), (.d (.i .i64 p1.num)), (.d (.s (bs p1.text)))]), (5, [(.d (.i .i64 p2.kind)), (.d (.i .i64 p2.num)), (.d (.s (bs p2.text)))]), (6, [(.d (.i .i64 0)), (.d (.i .i64 0)), (.d (.s (bs [])))])]⟩
def acsTextValue : AC := (.seq (.ops [.alc 2 [(.d (.i .i64 0)), (.d (.i .i64 0)), (.d (.s (bs [])))]]) (.seq (.ops [.mv 3 (.t 0), .bld 4 [(.d (.i .i64 0)), (.d (.i .i64 0)), (.d (.s (bs [])))] [(0, 1, (.c (.d (.i .i64 2)))), (2, 1, (.t 3))], .st 3 (.t 2) (.t 4)]) .ret))
theorem trsTextValue : trFn Try.prog 126 = some (acsTextValue, [.ld 0 3 true (.t 2)], 5) := by kernel_rfl
def qsTextValue (r : GValue) : Exit → St → Prop := retQ [.ld 0 3 true (.t 2)] fun x _ => x = (fun y => (vGValue y)) r
def acsL6Divide : AC := (.seq (.ops [.alc 6 [(.d (.i .i64 0)), (.d (.i .i64 0)), (.d (.s (bs [])))], .asg 7 (.c (.d (.i .i64 0)))]) (.seq (.seq (.ops [.mv 10 (.t 2), .bin 11 .eql (.t 10) (.c (.d (.i .i64 0)))]) (.cond (.t 11) (.seq (.ops [.bld 12 [(.d (.i .i64 0)), (.d (.i .i64 0)), (.d (.s (bs [])))] [], .st 3 (.t 6) (.t 12), .asg 7 (.c (.d (.i .i64 3)))]) .ret) .skip)) (.seq (.seq (.ops [.mv 13 (.t 2), .bin 14 .eql (.t 13) (.c (.d (.i .i64 (-1))))]) (.cond (.t 14) (.seq (.seq (.ops [.mv 15 (.t 0), .bin 16 .eql (.t 15) (.c (.d (.i .i64 14)))]) (.cond (.t 16) (.seq (.ops [.call (some 17) 151 [(.c (.d (.i .i64 0)))], .st 3 (.t 6) (.t 17), .asg 7 (.c (.d (.i .i64 0)))]) .ret) .skip)) (.seq (.ops [.mv 19 (.t 1), .call (some 20) 129 [(.c (.d (.i .i64 0))), (.t 19)], .mv 18 (.t 20), .ext 21 (.t 18) 0, .ext 22 (.t 18) 1, .asg 8 (.t 21), .asg 9 (.t 22)]) (.seq (.ops [.mv 23 (.t 8), .mv 24 (.t 9), .call (some 25) 128 [(.t 23), (.t 24)], .ext 26 (.t 25) 0, .ext 27 (.t 25) 1, .st 3 (.t 6) (.t 26), .asg 7 (.t 27)]) .ret))) .skip)) (.seq (.seq (.ops [.mv 28 (.t 0), .bin 29 .eql (.t 28) (.c (.d (.i .i64 14)))]) (.cond (.t 29) (.seq (.ops [.mv 30 (.t 1), .mv 31 (.t 2), .bin 32 .rem (.t 30) (.t 31), .call (some 33) 151 [(.t 32)], .st 3 (.t 6) (.t 33), .asg 7 (.c (.d (.i .i64 0)))]) .ret) .skip)) (.seq (.ops [.mv 34 (.t 1), .mv 35 (.t 2), .bin 36 .quo (.t 34) (.t 35), .call (some 37) 151 [(.t 36)], .st 3 (.t 6) (.t 37), .asg 7 (.c (.d (.i .i64 0)))]) .ret)))))
theorem trsL6Divide : trFn Try.prog 131 = some (acsL6Divide, [.ld 0 3 true (.t 6), .mv 0 (.t 7)], 38) := by kernel_rfl
def qsL6Divide (r : GValue × Int) : Exit → St → Prop := retQ [.ld 0 3 true (.t 6), .mv 0 (.t 7)] fun x _ => x = (fun y => (.tup [(vGValue y.1), (.d (.i .i64 y.2))])) r
def acsIntValue : AC := (.seq (.ops [.alc 2 [(.d (.i .i64 0)), (.d (.i .i64 0)), (.d (.s (bs [])))]]) (.seq (.ops [.mv 3 (.t 0), .bld 4 [(.d (.i .i64 0)), (.d (.i .i64 0)), (.d (.s (bs [])))] [(0, 1, (.c (.d (.i .i64 1)))), (1, 1, (.t 3))], .st 3 (.t 2) (.t 4)]) .ret))
theorem trsIntValue : trFn Try.prog 151 = some (acsIntValue, [.ld 0 3 true (.t 2)], 5) := by kernel_rfl
def qsIntValue (r : GValue) : Exit → St → Prop := retQ [.ld 0 3 true (.t 2)] fun x _ => x = (fun y => (vGValue y)) r
def acsL6Num : AC := (.seq (.ops [.alc 4 [(.d (.i .i64 0)), (.d (.i .i64 0)), (.d (.s (bs [])))], .asg 5 (.c (.d (.i .i64 0)))]) (.seq (.seq (.ops [.mv 6 (.t 1), .not 7 (.t 6)]) (.cond (.t 7) (.seq (.ops [.bld 8 [(.d (.i .i64 0)), (.d (.i .i64 0)), (.d (.s (bs [])))] [], .st 3 (.t 4) (.t 8), .asg 5 (.c (.d (.i .i64 2)))]) .ret) .skip)) (.seq (.ops [.mv 9 (.t 0), .call (some 10) 151 [(.t 9)], .st 3 (.t 4) (.t 10), .asg 5 (.c (.d (.i .i64 0)))]) .ret)))
theorem trsL6Num : trFn Try.prog 128 = some (acsL6Num, [.ld 0 3 true (.t 4), .mv 0 (.t 5)], 11) := by kernel_rfl
def qsL6Num (r : GValue × Int) : Exit → St → Prop := retQ [.ld 0 3 true (.t 4), .mv 0 (.t 5)] fun x _ => x = (fun y => (.tup [(vGValue y.1), (.d (.i .i64 y.2))])) r
def acsSubNum : AC := (.seq (.ops [.asg 4 (.c (.d (.i .i64 0))), .asg 5 (.c (.d (.b false)))]) (.seq (.seq (.ops [.mv 6 (.t 1), .bin 7 .lss (.t 6) (.c (.d (.i .i64 0))), .mv 8 (.t 7), .g 8 true (.mv 9 (.t 0)), .g 8 true (.mv 10 (.t 1)), .g 8 true (.bin 11 .add (.c (.d (.i .i64 9223372036854775807))) (.t 10)), .g 8 true (.bin 12 .gtr (.t 9) (.t 11)), .pick 13 (.t 8) (.t 12) (.c (.d (.b false))), .mv 14 (.t 13), .g 14 false (.mv 15 (.t 1)), .g 14 false (.bin 16 .gtr (.t 15) (.c (.d (.i .i64 0)))), .g 14 false (.mv 17 (.t 16)), .g 17 true (.mv 18 (.t 0)), .g 17 true (.mv 19 (.t 1)), .g 17 true (.bin 20 .add (.c (.d (.i .i64 (-9223372036854775808)))) (.t 19)), .g 17 true (.bin 21 .lss (.t 18) (.t 20)), .g 14 false (.pick 22 (.t 17) (.t 21) (.c (.d (.b false)))), .pick 23 (.t 14) (.c (.d (.b true))) (.t 22)]) (.cond (.t 23) (.seq (.ops [.asg 4 (.c (.d (.i .i64 0))), .asg 5 (.c (.d (.b false)))]) .ret) .skip)) (.seq (.ops [.mv 24 (.t 0), .mv 25 (.t 1), .bin 26 .sub (.t 24) (.t 25), .asg 4 (.t 26), .asg 5 (.c (.d (.b true)))]) .ret)))
theorem trsSubNum : trFn Try.prog 129 = some (acsSubNum, [.mv 0 (.t 4), .mv 0 (.t 5)], 27) := by kernel_rfl
def qsSubNum (r : Int × Bool) : Exit → St → Prop := retQ [.mv 0 (.t 4), .mv 0 (.t 5)] fun x _ => x = (fun y => (.tup [(.d (.i .i64 y.1)), (.d (.b y.2))])) r
def acsL6Types : AC := (.seq (.ops [.box 4 (.t 1), .box 5 (.t 2), .asg 6 (.c (.d (.b false)))]) (.seq (.seq (.ops [.mv 7 (.t 0), .bin 8 .eql (.t 7) (.c (.d (.i .i64 9)))]) (.cond (.t 8) (.seq (.ops [.ld 9 3 true (.t 4), .call (some 10) 185 [(.t 9), (.c (.d (.i .i64 2)))], .mv 11 (.t 10), .g 11 true (.ld 12 3 true (.t 5)), .g 11 true (.call (some 13) 185 [(.t 12), (.c (.d (.i .i64 2)))]), .pick 14 (.t 11) (.t 13) (.c (.d (.b false))), .asg 6 (.t 14)]) .ret) .skip)) (.seq (.seq (.ops [.mv 15 (.t 0), .bin 16 .geq (.t 15) (.c (.d (.i .i64 10)))]) (.cond (.t 16) (.seq (.ops [.ld 17 3 true (.t 4), .call (some 18) 185 [(.t 17), (.c (.d (.i .i64 1)))], .mv 19 (.t 18), .g 19 true (.ld 20 3 true (.t 5)), .g 19 true (.call (some 21) 185 [(.t 20), (.c (.d (.i .i64 1)))]), .pick 22 (.t 19) (.t 21) (.c (.d (.b false))), .asg 6 (.t 22)]) .ret) .skip)) (.seq (.ops [.fa 23 0 (.t 4), .ld 24 1 false (.t 23), .fa 25 0 (.t 5), .ld 26 1 false (.t 25), .bin 27 .eql (.t 24) (.t 26), .mv 28 (.t 27), .g 28 false (.ld 29 3 true (.t 4)), .g 28 false (.call (some 30) 125 [(.t 29)]), .pick 31 (.t 28) (.c (.d (.b true))) (.t 30), .mv 32 (.t 31), .g 32 false (.ld 33 3 true (.t 5)), .g 32 false (.call (some 34) 125 [(.t 33)]), .pick 35 (.t 32) (.c (.d (.b true))) (.t 34), .asg 6 (.t 35)]) .ret))))
theorem trsL6Types : trFn Try.prog 124 = some (acsL6Types, [.mv 0 (.t 6)], 36) := by kernel_rfl
def qsL6Types (r : Bool) : Exit → St → Prop := retQ [.mv 0 (.t 6)] fun x _ => x = (fun y => (.d (.b y))) r
def acsL6Null : AC := (.seq (.ops [.box 1 (.t 0), .asg 2 (.c (.d (.b false)))]) (.seq (.ops [.fa 3 0 (.t 1), .ld 4 1 false (.t 3), .bin 5 .eql (.t 4) (.c (.d (.i .i64 0))), .asg 2 (.t 5)]) .ret))
theorem trsL6Null : trFn Try.prog 125 = some (acsL6Null, [.mv 0 (.t 2)], 6) := by kernel_rfl
def qsL6Null (r : Bool) : Exit → St → Prop := retQ [.mv 0 (.t 2)] fun x _ => x = (fun y => (.d (.b y))) r
def acsL6Is : AC := (.seq (.ops [.box 2 (.t 0), .asg 4 (.c (.d (.b false)))]) (.seq (.ops [.fa 5 0 (.t 2), .ld 6 1 false (.t 5), .mv 7 (.t 1), .bin 8 .eql (.t 6) (.t 7), .mv 9 (.t 8), .g 9 false (.ld 10 3 true (.t 2)), .g 9 false (.call (some 11) 125 [(.t 10)]), .pick 12 (.t 9) (.c (.d (.b true))) (.t 11), .asg 4 (.t 12)]) .ret))
theorem trsL6Is : trFn Try.prog 185 = some (acsL6Is, [.mv 0 (.t 4)], 13) := by kernel_rfl
def qsL6Is (r : Bool) : Exit → St → Prop := retQ [.mv 0 (.t 4)] fun x _ => x = (fun y => (.d (.b y))) r
def acsL6Logic : AC := (.seq (.ops [.box 4 (.t 1), .box 5 (.t 2), .alc 6 [(.d (.i .i64 0)), (.d (.i .i64 0)), (.d (.s (bs [])))], .asg 7 (.c (.d (.i .i64 0)))]) (.seq (.seq (.ops [.ld 9 3 true (.t 4), .call (some 10) 185 [(.t 9), (.c (.d (.i .i64 3)))], .not 11 (.t 10), .mv 12 (.t 11), .g 12 false (.ld 13 3 true (.t 5)), .g 12 false (.call (some 14) 185 [(.t 13), (.c (.d (.i .i64 3)))]), .g 12 false (.not 15 (.t 14)), .pick 16 (.t 12) (.c (.d (.b true))) (.t 15)]) (.cond (.t 16) (.seq (.ops [.bld 17 [(.d (.i .i64 0)), (.d (.i .i64 0)), (.d (.s (bs [])))] [], .st 3 (.t 6) (.t 17), .asg 7 (.c (.d (.i .i64 1)))]) .ret) .skip)) (.seq (.ops [.mv 18 (.t 0), .bin 19 .eql (.t 18) (.c (.d (.i .i64 1))), .call (some 20) 37 [(.t 19)], .alc 8 [(.d (.i .i64 0)), (.d (.i .i64 0)), (.d (.s (bs [])))], .st 3 (.t 8) (.t 20)]) (.seq (.seq (.ops [.ld 21 3 true (.t 4), .ld 22 3 true (.t 8), .eqv 23 false [0, 0, 1] (.t 21) (.t 22), .mv 24 (.t 23), .g 24 false (.ld 25 3 true (.t 5)), .g 24 false (.ld 26 3 true (.t 8)), .g 24 false (.eqv 27 false [0, 0, 1] (.t 25) (.t 26)), .pick 28 (.t 24) (.c (.d (.b true))) (.t 27)]) (.cond (.t 28) (.seq (.ops [.ld 29 3 true (.t 8), .st 3 (.t 6) (.t 29), .asg 7 (.c (.d (.i .i64 0)))]) .ret) .skip)) (.seq (.seq (.ops [.ld 30 3 true (.t 4), .call (some 31) 125 [(.t 30)], .mv 32 (.t 31), .g 32 false (.ld 33 3 true (.t 5)), .g 32 false (.call (some 34) 125 [(.t 33)]), .pick 35 (.t 32) (.c (.d (.b true))) (.t 34)]) (.cond (.t 35) (.seq (.ops [.bld 36 [(.d (.i .i64 0)), (.d (.i .i64 0)), (.d (.s (bs [])))] [], .st 3 (.t 6) (.t 36), .asg 7 (.c (.d (.i .i64 0)))]) .ret) .skip)) (.seq (.ops [.mv 37 (.t 0), .bin 38 .eql (.t 37) (.c (.d (.i .i64 2))), .call (some 39) 37 [(.t 38)], .st 3 (.t 6) (.t 39), .asg 7 (.c (.d (.i .i64 0)))]) .ret))))))
theorem trsL6Logic : trFn Try.prog 123 = some (acsL6Logic, [.ld 0 3 true (.t 6), .mv 0 (.t 7)], 40) := by kernel_rfl
def qsL6Logic (r : GValue × Int) : Exit → St → Prop := retQ [.ld 0 3 true (.t 6), .mv 0 (.t 7)] fun x _ => x = (fun y => (.tup [(vGValue y.1), (.d (.i .i64 y.2))])) r
def acsOrder : AC := (.seq (.ops [.box 2 (.t 0), .box 3 (.t 1), .asg 4 (.c (.d (.i .i64 0)))]) (.seq (.block 0 (.seq (.ops [.fa 6 0 (.t 2), .ld 7 1 false (.t 6), .fa 8 0 (.t 3), .ld 9 1 false (.t 8), .bin 10 .lss (.t 7) (.t 9), .asg 5 (.t 10)]) (.cond (.t 5) (.seq (.ops [.asg 4 (.c (.d (.i .i64 (-1))))]) .ret) (.seq (.ops [.fa 12 0 (.t 2), .ld 13 1 false (.t 12), .fa 14 0 (.t 3), .ld 15 1 false (.t 14), .bin 16 .gtr (.t 13) (.t 15), .asg 11 (.t 16)]) (.cond (.t 11) (.seq (.ops [.asg 4 (.c (.d (.i .i64 1)))]) .ret) (.seq (.ops [.fa 18 1 (.t 2), .ld 19 1 false (.t 18), .fa 20 1 (.t 3), .ld 21 1 false (.t 20), .bin 22 .lss (.t 19) (.t 21), .asg 17 (.t 22)]) (.cond (.t 17) (.seq (.ops [.asg 4 (.c (.d (.i .i64 (-1))))]) .ret) (.seq (.ops [.fa 24 1 (.t 2), .ld 25 1 false (.t 24), .fa 26 1 (.t 3), .ld 27 1 false (.t 26), .bin 28 .gtr (.t 25) (.t 27), .asg 23 (.t 28)]) (.cond (.t 23) (.seq (.ops [.asg 4 (.c (.d (.i .i64 1)))]) .ret) (.seq (.ops [.fa 30 2 (.t 2), .ld 31 1 false (.t 30), .fa 32 2 (.t 3), .ld 33 1 false (.t 32), .bin 34 .lss (.t 31) (.t 33), .asg 29 (.t 34)]) (.cond (.t 29) (.seq (.ops [.asg 4 (.c (.d (.i .i64 (-1))))]) .ret) (.seq (.ops [.fa 36 2 (.t 2), .ld 37 1 false (.t 36), .fa 38 2 (.t 3), .ld 39 1 false (.t 38), .bin 40 .gtr (.t 37) (.t 39), .asg 35 (.t 40)]) (.cond (.t 35) (.seq (.ops [.asg 4 (.c (.d (.i .i64 1)))]) .ret) .skip))))))))))))) (.seq (.ops [.asg 4 (.c (.d (.i .i64 0)))]) .ret)))
theorem trsOrder : trFn Try.prog 38 = some (acsOrder, [.mv 0 (.t 4)], 41) := by kernel_rfl
def qsOrder (r : Int) : Exit → St → Prop := retQ [.mv 0 (.t 4)] fun x _ => x = (fun y => (.d (.i .i64 y))) r
def acsL6Compare : AC := (.seq (.ops [.asg 4 (.c (.d (.b false)))]) (.seq (.seq (.ops [.mv 5 (.t 0)]) (.block 0 (.seq (.ops [.bin 7 .eql (.t 5) (.c (.d (.i .i64 3))), .asg 6 (.t 7)]) (.cond (.t 6) (.seq (.ops [.mv 8 (.t 1), .bin 9 .eql (.t 8) (.c (.d (.i .i64 0))), .asg 4 (.t 9)]) .ret) (.seq (.ops [.bin 11 .eql (.t 5) (.c (.d (.i .i64 4))), .asg 10 (.t 11)]) (.cond (.t 10) (.seq (.ops [.mv 12 (.t 1), .bin 13 .neq (.t 12) (.c (.d (.i .i64 0))), .asg 4 (.t 13)]) .ret) (.seq (.ops [.bin 15 .eql (.t 5) (.c (.d (.i .i64 5))), .asg 14 (.t 15)]) (.cond (.t 14) (.seq (.ops [.mv 16 (.t 1), .bin 17 .lss (.t 16) (.c (.d (.i .i64 0))), .asg 4 (.t 17)]) .ret) (.seq (.ops [.bin 19 .eql (.t 5) (.c (.d (.i .i64 6))), .asg 18 (.t 19)]) (.cond (.t 18) (.seq (.ops [.mv 20 (.t 1), .bin 21 .leq (.t 20) (.c (.d (.i .i64 0))), .asg 4 (.t 21)]) .ret) (.seq (.ops [.bin 23 .eql (.t 5) (.c (.d (.i .i64 7))), .asg 22 (.t 23)]) (.cond (.t 22) (.seq (.ops [.mv 24 (.t 1), .bin 25 .gtr (.t 24) (.c (.d (.i .i64 0))), .asg 4 (.t 25)]) .ret) .skip)))))))))))) (.seq (.ops [.mv 26 (.t 1), .bin 27 .geq (.t 26) (.c (.d (.i .i64 0))), .asg 4 (.t 27)]) .ret)))
theorem trsL6Compare : trFn Try.prog 132 = some (acsL6Compare, [.mv 0 (.t 4)], 28) := by kernel_rfl
def qsL6Compare (r : Bool) : Exit → St → Prop := retQ [.mv 0 (.t 4)] fun x _ => x = (fun y => (.d (.b y))) r
def acsAddNum : AC := (.seq (.ops [.asg 4 (.c (.d (.i .i64 0))), .asg 5 (.c (.d (.b false)))]) (.seq (.seq (.ops [.mv 6 (.t 1), .bin 7 .gtr (.t 6) (.c (.d (.i .i64 0))), .mv 8 (.t 7), .g 8 true (.mv 9 (.t 0)), .g 8 true (.mv 10 (.t 1)), .g 8 true (.bin 11 .sub (.c (.d (.i .i64 9223372036854775807))) (.t 10)), .g 8 true (.bin 12 .gtr (.t 9) (.t 11)), .pick 13 (.t 8) (.t 12) (.c (.d (.b false))), .mv 14 (.t 13), .g 14 false (.mv 15 (.t 1)), .g 14 false (.bin 16 .lss (.t 15) (.c (.d (.i .i64 0)))), .g 14 false (.mv 17 (.t 16)), .g 17 true (.mv 18 (.t 0)), .g 17 true (.mv 19 (.t 1)), .g 17 true (.bin 20 .sub (.c (.d (.i .i64 (-9223372036854775808)))) (.t 19)), .g 17 true (.bin 21 .lss (.t 18) (.t 20)), .g 14 false (.pick 22 (.t 17) (.t 21) (.c (.d (.b false)))), .pick 23 (.t 14) (.c (.d (.b true))) (.t 22)]) (.cond (.t 23) (.seq (.ops [.asg 4 (.c (.d (.i .i64 0))), .asg 5 (.c (.d (.b false)))]) .ret) .skip)) (.seq (.ops [.mv 24 (.t 0), .mv 25 (.t 1), .bin 26 .add (.t 24) (.t 25), .asg 4 (.t 26), .asg 5 (.c (.d (.b true)))]) .ret)))
theorem trsAddNum : trFn Try.prog 127 = some (acsAddNum, [.mv 0 (.t 4), .mv 0 (.t 5)], 27) := by kernel_rfl
def qsAddNum (r : Int × Bool) : Exit → St → Prop := retQ [.mv 0 (.t 4), .mv 0 (.t 5)] fun x _ => x = (fun y => (.tup [(.d (.i .i64 y.1)), (.d (.b y.2))])) r
def acsL1In : AC := (.seq (.ops [.asg 6 (.c (.d (.b false)))]) (.seq (.ops [.mv 7 (.t 0), .mv 8 (.t 1), .bin 9 .geq (.t 7) (.t 8), .mv 10 (.t 9), .g 10 true (.mv 11 (.t 0)), .g 10 true (.mv 12 (.t 2)), .g 10 true (.bin 13 .leq (.t 11) (.t 12)), .pick 14 (.t 10) (.t 13) (.c (.d (.b false))), .asg 6 (.t 14)]) .ret))
theorem trsL1In : trFn Try.prog 121 = some (acsL1In, [.mv 0 (.t 6)], 15) := by kernel_rfl
def qsL1In (r : Bool) : Exit → St → Prop := retQ [.mv 0 (.t 6)] fun x _ => x = (fun y => (.d (.b y))) r
def acsMulNum : AC := (.seq (.ops [.asg 4 (.c (.d (.i .i64 0))), .asg 5 (.c (.d (.b false)))]) (.seq (.seq (.ops [.mv 7 (.t 0), .bin 8 .eql (.t 7) (.c (.d (.i .i64 0))), .mv 9 (.t 8), .g 9 false (.mv 10 (.t 1)), .g 9 false (.bin 11 .eql (.t 10) (.c (.d (.i .i64 0)))), .pick 12 (.t 9) (.c (.d (.b true))) (.t 11)]) (.cond (.t 12) (.seq (.ops [.asg 4 (.c (.d (.i .i64 0))), .asg 5 (.c (.d (.b true)))]) .ret) .skip)) (.seq (.seq (.ops [.mv 13 (.t 0), .bin 14 .eql (.t 13) (.c (.d (.i .i64 (-1)))), .mv 15 (.t 14), .g 15 true (.mv 16 (.t 1)), .g 15 true (.bin 17 .eql (.t 16) (.c (.d (.i .i64 (-9223372036854775808))))), .pick 18 (.t 15) (.t 17) (.c (.d (.b false))), .mv 19 (.t 18), .g 19 false (.mv 20 (.t 1)), .g 19 false (.bin 21 .eql (.t 20) (.c (.d (.i .i64 (-1))))), .g 19 false (.mv 22 (.t 21)), .g 22 true (.mv 23 (.t 0)), .g 22 true (.bin 24 .eql (.t 23) (.c (.d (.i .i64 (-9223372036854775808))))), .g 19 false (.pick 25 (.t 22) (.t 24) (.c (.d (.b false)))), .pick 26 (.t 19) (.c (.d (.b true))) (.t 25)]) (.cond (.t 26) (.seq (.ops [.asg 4 (.c (.d (.i .i64 0))), .asg 5 (.c (.d (.b false)))]) .ret) .skip)) (.seq (.ops [.mv 27 (.t 0), .mv 28 (.t 1), .bin 29 .mul (.t 27) (.t 28), .asg 6 (.t 29)]) (.seq (.seq (.ops [.mv 30 (.t 6), .mv 31 (.t 1), .bin 32 .quo (.t 30) (.t 31), .mv 33 (.t 0), .bin 34 .neq (.t 32) (.t 33)]) (.cond (.t 34) (.seq (.ops [.asg 4 (.c (.d (.i .i64 0))), .asg 5 (.c (.d (.b false)))]) .ret) .skip)) (.seq (.ops [.mv 35 (.t 6), .asg 4 (.t 35), .asg 5 (.c (.d (.b true)))]) .ret))))))
theorem trsMulNum : trFn Try.prog 130 = some (acsMulNum, [.mv 0 (.t 4), .mv 0 (.t 5)], 36) := by kernel_rfl
def qsMulNum (r : Int × Bool) : Exit → St → Prop := retQ [.mv 0 (.t 4), .mv 0 (.t 5)] fun x _ => x = (fun y => (.tup [(.d (.i .i64 y.1)), (.d (.b y.2))])) r
def acsValueOk : AC := (.seq (.ops [.box 1 (.t 0), .asg 2 (.c (.d (.b false)))]) (.seq (.seq (.ops [.fa 3 0 (.t 1), .ld 4 1 false (.t 3)]) (.block 0 (.seq (.ops [.bin 6 .eql (.t 4) (.c (.d (.i .i64 0))), .asg 5 (.t 6)]) (.cond (.t 5) (.seq (.ops [.fa 7 1 (.t 1), .ld 8 1 false (.t 7), .bin 9 .eql (.t 8) (.c (.d (.i .i64 0))), .mv 10 (.t 9), .g 10 true (.fa 11 2 (.t 1)), .g 10 true (.ld 12 1 false (.t 11)), .g 10 true (.bin 13 .eql (.t 12) (.c (.d (.s (bs []))))), .pick 14 (.t 10) (.t 13) (.c (.d (.b false))), .asg 2 (.t 14)]) .ret) (.seq (.ops [.bin 16 .eql (.t 4) (.c (.d (.i .i64 1))), .asg 15 (.t 16)]) (.cond (.t 15) (.seq (.ops [.fa 17 2 (.t 1), .ld 18 1 false (.t 17), .bin 19 .eql (.t 18) (.c (.d (.s (bs [])))), .asg 2 (.t 19)]) .ret) (.seq (.ops [.bin 21 .eql (.t 4) (.c (.d (.i .i64 2))), .asg 20 (.t 21)]) (.cond (.t 20) (.seq (.ops [.fa 22 1 (.t 1), .ld 23 1 false (.t 22), .bin 24 .eql (.t 23) (.c (.d (.i .i64 0))), .mv 25 (.t 24), .g 25 true (.fa 26 2 (.t 1)), .g 25 true (.ld 27 1 false (.t 26)), .g 25 true (.lns 28 (.t 27)), .g 25 true (.bin 29 .leq (.t 28) (.c (.d (.i .i64 200)))), .pick 30 (.t 25) (.t 29) (.c (.d (.b false))), .asg 2 (.t 30)]) .ret) (.seq (.ops [.bin 32 .eql (.t 4) (.c (.d (.i .i64 3))), .asg 31 (.t 32)]) (.cond (.t 31) (.seq (.ops [.fa 33 1 (.t 1), .ld 34 1 false (.t 33), .call (some 35) 121 [(.t 34), (.c (.d (.i .i64 0))), (.c (.d (.i .i64 1)))], .mv 36 (.t 35), .g 36 true (.fa 37 2 (.t 1)), .g 36 true (.ld 38 1 false (.t 37)), .g 36 true (.bin 39 .eql (.t 38) (.c (.d (.s (bs []))))), .pick 40 (.t 36) (.t 39) (.c (.d (.b false))), .asg 2 (.t 40)]) .ret) .skip)))))))))) (.seq (.ops [.asg 2 (.c (.d (.b false)))]) .ret)))
theorem trsValueOk : trFn Try.prog 122 = some (acsValueOk, [.mv 0 (.t 2)], 41) := by kernel_rfl
def qsValueOk (r : Bool) : Exit → St → Prop := retQ [.mv 0 (.t 2)] fun x _ => x = (fun y => (.d (.b y))) r
def acwBig : AC := (.seq (.ops [.asg 2 (.c (.d (.b false)))]) (.seq (.ops [.mv 3 (.t 0), .len 4 (.t 3), .bin 5 .gtr (.t 4) (.c (.d (.i .i64 1048576))), .asg 2 (.t 5)]) .ret))
theorem trwBig : trFn Try.prog 14 = some (acwBig, [.mv 0 (.t 2)], 6) := by kernel_rfl
def qwBig (r : Bool) : Exit → St → Prop := retQ [.mv 0 (.t 2)] fun x _ => x = (fun y => (.d (.b y))) r
def aciWithin_L0 : AC := (.loop (.seq (.ops [.bin 15 .lss (.t 14) (.t 13)]) (.seq (.cond (.t 15) .skip (.exit 0)) (.seq (.block 1 (.seq (.ops [.ia 16 3 (.t 12) (.t 14), .ld 17 3 true (.t 16), .alc 8 [(.d (.i .i64 0)), (.d (.i .i64 0)), (.d (.s (bs [])))], .st 3 (.t 8) (.t 17)]) (.seq (.ops [.ld 19 3 true (.t 2), .ld 20 3 true (.t 8), .call (some 21) 67 [(.c (.d (.i .i64 3))), (.t 19), (.t 20)], .mv 18 (.t 21), .ext 22 (.t 18) 0, .ext 23 (.t 18) 1, .alc 9 [(.d (.i .i64 0)), (.d (.i .i64 0)), (.d (.s (bs [])))], .st 3 (.t 9) (.t 22), .asg 10 (.t 23)]) (.seq (.seq (.ops [.mv 24 (.t 10), .bin 25 .neq (.t 24) (.c (.d (.i .i64 0)))]) (.cond (.t 25) (.seq (.ops [.bld 26 [(.d (.i .i64 0)), (.d (.i .i64 0)), (.d (.s (bs [])))] [], .mv 27 (.t 10), .st 3 (.t 4) (.t 26), .asg 5 (.t 27)]) .ret) .skip)) (.seq (.ops [.ld 29 3 true (.t 6), .ld 30 3 true (.t 9), .call (some 31) 67 [(.c (.d (.i .i64 1))), (.t 29), (.t 30)], .mv 28 (.t 31), .ext 32 (.t 28) 0, .ext 33 (.t 28) 1, .st 3 (.t 6) (.t 32), .asg 10 (.t 33)]) (.seq (.ops [.mv 34 (.t 10), .bin 35 .neq (.t 34) (.c (.d (.i .i64 0)))]) (.cond (.t 35) (.seq (.ops [.bld 36 [(.d (.i .i64 0)), (.d (.i .i64 0)), (.d (.s (bs [])))] [], .mv 37 (.t 10), .st 3 (.t 4) (.t 36), .asg 5 (.t 37)]) .ret) .skip))))))) (.ops [.bin 38 .add (.t 14) (.c (.d (.i .i64 1))), .mv 14 (.t 38)])))))
def aciWithin : AC := (.seq (.ops [.box 2 (.t 0), .alc 4 [(.d (.i .i64 0)), (.d (.i .i64 0)), (.d (.s (bs [])))], .asg 5 (.c (.d (.i .i64 0)))]) (.seq (.ops [.call (some 11) 74 [(.c (.d (.b false)))], .alc 6 [(.d (.i .i64 0)), (.d (.i .i64 0)), (.d (.s (bs [])))], .st 3 (.t 6) (.t 11)]) (.seq (.seq (.ops [.mv 12 (.t 1), .len 13 (.t 12), .mv 14 (.c (.d (.i .i64 0)))]) (.block 0 aciWithin_L0)) (.seq (.ops [.ld 39 3 true (.t 6), .st 3 (.t 4) (.t 39), .asg 5 (.c (.d (.i .i64 0)))]) .ret))))
theorem triWithin : trFn Try.prog 33 = some (aciWithin, [.ld 0 3 true (.t 4), .mv 0 (.t 5)], 40) := by kernel_rfl
def qiWithin (r : GValue × Int) : Exit → St → Prop := retQ [.ld 0 3 true (.t 4), .mv 0 (.t 5)] fun x _ => x = (fun y => (.tup [(vGValue y.1), (.d (.i .i64 y.2))])) r
def qiWithin_0 (r : GValue × Int) : Exit → St → Prop := (thenK (wkK (avc Try.prog (.seq (.ops [.ld 39 3 true (.t 6), .st 3 (.t 4) (.t 39), .asg 5 (.c (.d (.i .i64 0)))]) .ret) (qiWithin r))) (qiWithin r))
def qiWithin_1 (r : GValue × Int) : Exit → St → Prop := (blockK 0 (qiWithin_0 r))
def stiWithin_L0 (p1 : (List GValue)) (p0 : GValue) (x14 : Int) (b6_0 : Int) (b6_1 : Int) (b6_2 : (List UInt8)) : St := ⟨[(2, (.ptr 2 0)), (4, (.ptr 4 0)), (6, (.ptr 6 0)), (12, (.d (.sl 3 (p1.map cGValue)))), (13, (.d (.i .i64 (p1.length : Int)))), (14, (.d (.i .i64 x14)))], [(2, [(.d (.i .i64 p0.kind)), (.d (.i .i64 p0.num)), (.d (.s (bs p0.text)))]), (4, [(.d (.i .i64 0)), (.d (.i .i64 0)), (.d (.s (bs [])))]), (6, [(.d (.i .i64 b6_0)), (.d (.i .i64 b6_1)), (.d (.s (bs b6_2)))])]⟩
def aciBoolValue_J0 : AC := (.seq (.ops [.ld 7 3 true (.t 3), .st 3 (.t 2) (.t 7)]) .ret)
def aciBoolValue : AC := (.seq (.ops [.alc 2 [(.d (.i .i64 0)), (.d (.i .i64 0)), (.d (.s (bs [])))]]) (.seq (.ops [.bld 4 [(.d (.i .i64 0)), (.d (.i .i64 0)), (.d (.s (bs [])))] [(0, 1, (.c (.d (.i .i64 3))))], .alc 3 [(.d (.i .i64 0)), (.d (.i .i64 0)), (.d (.s (bs [])))], .st 3 (.t 3) (.t 4)]) (.seq (.seq (.ops [.mv 5 (.t 0)]) (.cond (.t 5) (.ops [.fa 6 1 (.t 3), .st 1 (.t 6) (.c (.d (.i .i64 1)))]) .skip)) aciBoolValue_J0)))
theorem triBoolValue : trFn Try.prog 74 = some (aciBoolValue, [.ld 0 3 true (.t 2)], 8) := by kernel_rfl
def qiBoolValue (r : GValue) : Exit → St → Prop := retQ [.ld 0 3 true (.t 2)] fun x _ => x = (fun y => (vGValue y)) r
def stiBoolValue_J0 (b3_1 : Int) : St := ⟨[(2, (.ptr 2 0)), (3, (.ptr 3 0))], [(2, [(.d (.i .i64 0)), (.d (.i .i64 0)), (.d (.s (bs [])))]), (3, [(.d (.i .i64 3)), (.d (.i .i64 b3_1)), (.d (.s (bs [])))])]⟩
def aciCalc : AC := (.seq (.ops [.box 4 (.t 1), .box 5 (.t 2), .alc 6 [(.d (.i .i64 0)), (.d (.i .i64 0)), (.d (.s (bs [])))], .asg 7 (.c (.d (.i .i64 0)))]) (.seq (.seq (.ops [.mv 9 (.t 0), .bin 10 .lss (.t 9) (.c (.d (.i .i64 1))), .mv 11 (.t 10), .g 11 false (.mv 12 (.t 0)), .g 11 false (.bin 13 .gtr (.t 12) (.c (.d (.i .i64 14)))), .pick 14 (.t 11) (.c (.d (.b true))) (.t 13), .mv 15 (.t 14), .g 15 false (.ld 16 3 true (.t 4)), .g 15 false (.call (some 17) 133 [(.t 16)]), .g 15 false (.not 18 (.t 17)), .pick 19 (.t 15) (.c (.d (.b true))) (.t 18), .mv 20 (.t 19), .g 20 false (.ld 21 3 true (.t 5)), .g 20 false (.call (some 22) 133 [(.t 21)]), .g 20 false (.not 23 (.t 22)), .pick 24 (.t 20) (.c (.d (.b true))) (.t 23)]) (.cond (.t 24) (.seq (.ops [.bld 25 [(.d (.i .i64 0)), (.d (.i .i64 0)), (.d (.s (bs [])))] [], .st 3 (.t 6) (.t 25), .asg 7 (.c (.d (.i .i64 1)))]) .ret) .skip)) (.seq (.seq (.ops [.mv 26 (.t 0), .bin 27 .leq (.t 26) (.c (.d (.i .i64 2)))]) (.cond (.t 27) (.seq (.ops [.mv 28 (.t 0), .ld 29 3 true (.t 4), .ld 30 3 true (.t 5), .call (some 31) 134 [(.t 28), (.t 29), (.t 30)], .ext 32 (.t 31) 0, .ext 33 (.t 31) 1, .st 3 (.t 6) (.t 32), .asg 7 (.t 33)]) .ret) .skip)) (.seq (.ops [.fa 34 0 (.t 4), .ld 35 1 false (.t 34), .bin 36 .eql (.t 35) (.c (.d (.i .i64 0))), .mv 37 (.t 36), .g 37 false (.fa 38 0 (.t 5)), .g 37 false (.ld 39 1 false (.t 38)), .g 37 false (.bin 40 .eql (.t 39) (.c (.d (.i .i64 0)))), .pick 41 (.t 37) (.c (.d (.b true))) (.t 40), .asg 8 (.t 41)]) (.seq (.seq (.ops [.mv 42 (.t 0), .ld 43 3 true (.t 4), .call (some 44) 135 [(.t 42), (.t 43)], .not 45 (.t 44), .mv 46 (.t 45), .g 46 false (.mv 47 (.t 0)), .g 46 false (.ld 48 3 true (.t 5)), .g 46 false (.call (some 49) 135 [(.t 47), (.t 48)]), .g 46 false (.not 50 (.t 49)), .pick 51 (.t 46) (.c (.d (.b true))) (.t 50), .mv 52 (.t 51), .g 52 false (.mv 53 (.t 0)), .g 52 false (.bin 54 .leq (.t 53) (.c (.d (.i .i64 8)))), .g 52 false (.mv 55 (.t 54)), .g 55 true (.mv 56 (.t 8)), .g 55 true (.not 57 (.t 56)), .g 52 false (.pick 58 (.t 55) (.t 57) (.c (.d (.b false)))), .g 52 false (.mv 59 (.t 58)), .g 59 true (.fa 60 0 (.t 4)), .g 59 true (.ld 61 1 false (.t 60)), .g 59 true (.fa 62 0 (.t 5)), .g 59 true (.ld 63 1 false (.t 62)), .g 59 true (.bin 64 .neq (.t 61) (.t 63)), .g 52 false (.pick 65 (.t 59) (.t 64) (.c (.d (.b false)))), .pick 66 (.t 52) (.c (.d (.b true))) (.t 65)]) (.cond (.t 66) (.seq (.ops [.bld 67 [(.d (.i .i64 0)), (.d (.i .i64 0)), (.d (.s (bs [])))] [], .st 3 (.t 6) (.t 67), .asg 7 (.c (.d (.i .i64 1)))]) .ret) .skip)) (.seq (.block 0 (.seq (.ops [.mv 69 (.t 8), .asg 68 (.t 69)]) (.cond (.t 68) (.seq (.ops [.bld 70 [(.d (.i .i64 0)), (.d (.i .i64 0)), (.d (.s (bs [])))] [], .st 3 (.t 6) (.t 70), .asg 7 (.c (.d (.i .i64 0)))]) .ret) (.seq (.ops [.mv 72 (.t 0), .bin 73 .leq (.t 72) (.c (.d (.i .i64 8))), .asg 71 (.t 73)]) (.cond (.t 71) (.seq (.ops [.mv 74 (.t 0), .ld 75 3 true (.t 4), .ld 76 3 true (.t 5), .call (some 77) 136 [(.t 74), (.t 75), (.t 76)], .st 3 (.t 6) (.t 77), .asg 7 (.c (.d (.i .i64 0)))]) .ret) (.seq (.ops [.mv 79 (.t 0), .bin 80 .neq (.t 79) (.c (.d (.i .i64 9))), .asg 78 (.t 80)]) (.cond (.t 78) (.seq (.ops [.mv 81 (.t 0), .fa 82 1 (.t 4), .ld 83 1 false (.t 82), .fa 84 1 (.t 5), .ld 85 1 false (.t 84), .call (some 86) 137 [(.t 81), (.t 83), (.t 85)], .ext 87 (.t 86) 0, .ext 88 (.t 86) 1, .st 3 (.t 6) (.t 87), .asg 7 (.t 88)]) .ret) .skip))))))) (.seq (.seq (.ops [.fa 89 2 (.t 4), .ld 90 1 false (.t 89), .lns 91 (.t 90), .fa 92 2 (.t 5), .ld 93 1 false (.t 92), .lns 94 (.t 93), .bin 95 .add (.t 91) (.t 94), .bin 96 .gtr (.t 95) (.c (.d (.i .i64 200)))]) (.cond (.t 96) (.seq (.ops [.bld 97 [(.d (.i .i64 0)), (.d (.i .i64 0)), (.d (.s (bs [])))] [], .st 3 (.t 6) (.t 97), .asg 7 (.c (.d (.i .i64 2)))]) .ret) .skip)) (.seq (.ops [.fa 98 2 (.t 4), .ld 99 1 false (.t 98), .fa 100 2 (.t 5), .ld 101 1 false (.t 100), .bin 102 .add (.t 99) (.t 101), .call (some 103) 138 [(.t 102)], .st 3 (.t 6) (.t 103), .asg 7 (.c (.d (.i .i64 0)))]) .ret))))))))
theorem triCalc : trFn Try.prog 67 = some (aciCalc, [.ld 0 3 true (.t 6), .mv 0 (.t 7)], 104) := by kernel_rfl
def qiCalc (r : GValue × Int) : Exit → St → Prop := retQ [.ld 0 3 true (.t 6), .mv 0 (.t 7)] fun x _ => x = (fun y => (.tup [(vGValue y.1), (.d (.i .i64 y.2))])) r
def aciCompared : AC := (.seq (.ops [.box 4 (.t 1), .box 5 (.t 2), .alc 6 [(.d (.i .i64 0)), (.d (.i .i64 0)), (.d (.s (bs [])))]]) (.seq (.ops [.ld 8 3 true (.t 4), .ld 9 3 true (.t 5), .call (some 10) 186 [(.t 8), (.t 9)], .asg 7 (.t 10)]) (.seq (.seq (.ops [.mv 11 (.t 0)]) (.block 0 (.seq (.ops [.bin 13 .eql (.t 11) (.c (.d (.i .i64 3))), .asg 12 (.t 13)]) (.cond (.t 12) (.seq (.ops [.mv 14 (.t 7), .bin 15 .eql (.t 14) (.c (.d (.i .i64 0))), .call (some 16) 74 [(.t 15)], .st 3 (.t 6) (.t 16)]) .ret) (.seq (.ops [.bin 18 .eql (.t 11) (.c (.d (.i .i64 4))), .asg 17 (.t 18)]) (.cond (.t 17) (.seq (.ops [.mv 19 (.t 7), .bin 20 .neq (.t 19) (.c (.d (.i .i64 0))), .call (some 21) 74 [(.t 20)], .st 3 (.t 6) (.t 21)]) .ret) (.seq (.ops [.bin 23 .eql (.t 11) (.c (.d (.i .i64 5))), .asg 22 (.t 23)]) (.cond (.t 22) (.seq (.ops [.mv 24 (.t 7), .bin 25 .lss (.t 24) (.c (.d (.i .i64 0))), .call (some 26) 74 [(.t 25)], .st 3 (.t 6) (.t 26)]) .ret) (.seq (.ops [.bin 28 .eql (.t 11) (.c (.d (.i .i64 6))), .asg 27 (.t 28)]) (.cond (.t 27) (.seq (.ops [.mv 29 (.t 7), .bin 30 .leq (.t 29) (.c (.d (.i .i64 0))), .call (some 31) 74 [(.t 30)], .st 3 (.t 6) (.t 31)]) .ret) (.seq (.ops [.bin 33 .eql (.t 11) (.c (.d (.i .i64 7))), .asg 32 (.t 33)]) (.cond (.t 32) (.seq (.ops [.mv 34 (.t 7), .bin 35 .gtr (.t 34) (.c (.d (.i .i64 0))), .call (some 36) 74 [(.t 35)], .st 3 (.t 6) (.t 36)]) .ret) .skip)))))))))))) (.seq (.ops [.mv 37 (.t 7), .bin 38 .geq (.t 37) (.c (.d (.i .i64 0))), .call (some 39) 74 [(.t 38)], .st 3 (.t 6) (.t 39)]) .ret))))
theorem triCompared : trFn Try.prog 136 = some (aciCompared, [.ld 0 3 true (.t 6)], 40) := by kernel_rfl
def qiCompared (r : GValue) : Exit → St → Prop := retQ [.ld 0 3 true (.t 6)] fun x _ => x = (fun y => (vGValue y)) r
def aciOrder : AC := (.seq (.ops [.box 2 (.t 0), .box 3 (.t 1), .asg 4 (.c (.d (.i .i64 0)))]) (.seq (.dops [[], [0], [], [2], [1, 3], [], [5], [], [7], [6, 8, 4], [], [10], [], [12], [11, 13, 9], [4, 9, 14], [15, 14], [16, 16, 0, 1, 2, 3, 4, 5, 6, 7, 8, 9, 10, 11, 12, 13, 14, 15, 16]] [.fa 5 0 (.t 2), .ld 6 1 false (.t 5), .fa 7 0 (.t 3), .ld 8 1 false (.t 7), .call (some 9) 211 [(.t 6), (.t 8)], .fa 10 1 (.t 2), .ld 11 1 false (.t 10), .fa 12 1 (.t 3), .ld 13 1 false (.t 12), .call (some 14) 211 [(.t 11), (.t 13)], .fa 15 2 (.t 2), .ld 16 1 false (.t 15), .fa 17 2 (.t 3), .ld 18 1 false (.t 17), .call (some 19) 212 [(.t 16), (.t 18)], .bsl 20 3 1 [(.t 9), (.t 14), (.t 19)], .call (some 21) 210 [(.t 20)], .asg 4 (.t 21)]) .ret))
theorem triOrder : trFn Try.prog 186 = some (aciOrder, [.mv 0 (.t 4)], 22) := by kernel_rfl
def qiOrder (r : Int) : Exit → St → Prop := retQ [.mv 0 (.t 4)] fun x _ => x = (fun y => (.d (.i .i64 y))) r
def acgCmp_Compare_int : AC := (.seq (.ops [.asg 4 (.c (.d (.i .i64 0)))]) (.seq (.ops [.mv 7 (.t 0), .call (some 8) 220 [(.t 7)], .asg 5 (.t 8)]) (.seq (.ops [.mv 9 (.t 1), .call (some 10) 220 [(.t 9)], .asg 6 (.t 10)]) (.seq (.seq (.ops [.mv 11 (.t 5)]) (.cond (.t 11) (.seq (.seq (.ops [.mv 12 (.t 6)]) (.cond (.t 12) (.seq (.ops [.asg 4 (.c (.d (.i .i64 0)))]) .ret) .skip)) (.seq (.ops [.asg 4 (.c (.d (.i .i64 (-1))))]) .ret)) .skip)) (.seq (.seq (.ops [.mv 13 (.t 6)]) (.cond (.t 13) (.seq (.ops [.asg 4 (.c (.d (.i .i64 1)))]) .ret) .skip)) (.seq (.seq (.ops [.mv 14 (.t 0), .mv 15 (.t 1), .bin 16 .lss (.t 14) (.t 15)]) (.cond (.t 16) (.seq (.ops [.asg 4 (.c (.d (.i .i64 (-1))))]) .ret) .skip)) (.seq (.seq (.ops [.mv 17 (.t 0), .mv 18 (.t 1), .bin 19 .gtr (.t 17) (.t 18)]) (.cond (.t 19) (.seq (.ops [.asg 4 (.c (.d (.i .i64 1)))]) .ret) .skip)) (.seq (.ops [.asg 4 (.c (.d (.i .i64 0)))]) .ret))))))))
theorem trgCmp_Compare_int : trFn Try.prog 211 = some (acgCmp_Compare_int, [.mv 0 (.t 4)], 20) := by kernel_rfl
def qgCmp_Compare_int (r : Int) : Exit → St → Prop := retQ [.mv 0 (.t 4)] fun x _ => x = (fun y => (.d (.i .i64 y))) r
def acgCmp_isNaN_int : AC := (.seq (.ops [.asg 2 (.c (.d (.b false)))]) (.seq (.ops [.mv 3 (.t 0), .mv 4 (.t 0), .bin 5 .neq (.t 3) (.t 4), .asg 2 (.t 5)]) .ret))
theorem trgCmp_isNaN_int : trFn Try.prog 220 = some (acgCmp_isNaN_int, [.mv 0 (.t 2)], 6) := by kernel_rfl
def qgCmp_isNaN_int (r : Bool) : Exit → St → Prop := retQ [.mv 0 (.t 2)] fun x _ => x = (fun y => (.d (.b y))) r
def acgCmp_Or_int_L0 : AC := (.loop (.seq (.ops [.bin 9 .lss (.t 8) (.t 7)]) (.seq (.cond (.t 9) .skip (.exit 0)) (.seq (.block 1 (.seq (.ops [.ia 10 1 (.t 6) (.t 8), .ld 11 1 false (.t 10), .asg 5 (.t 11)]) (.seq (.ops [.mv 12 (.t 5), .mv 13 (.t 3), .bin 14 .neq (.t 12) (.t 13)]) (.cond (.t 14) (.seq (.ops [.mv 15 (.t 5), .asg 2 (.t 15)]) .ret) .skip)))) (.ops [.bin 16 .add (.t 8) (.c (.d (.i .i64 1))), .mv 8 (.t 16)])))))
def acgCmp_Or_int : AC := (.seq (.ops [.asg 2 (.c (.d (.i .i64 0)))]) (.seq (.ops [.asg 3 (.c (.d (.i .i64 0)))]) (.seq (.seq (.ops [.mv 6 (.t 0), .len 7 (.t 6), .mv 8 (.c (.d (.i .i64 0)))]) (.block 0 acgCmp_Or_int_L0)) (.seq (.ops [.mv 17 (.t 3), .asg 2 (.t 17)]) .ret))))
theorem trgCmp_Or_int : trFn Try.prog 210 = some (acgCmp_Or_int, [.mv 0 (.t 2)], 18) := by kernel_rfl
def qgCmp_Or_int (r : Int) : Exit → St → Prop := retQ [.mv 0 (.t 2)] fun x _ => x = (fun y => (.d (.i .i64 y))) r
def qgCmp_Or_int_0 (r : Int) : Exit → St → Prop := (thenK (wkK (avc Try.prog (.seq (.ops [.mv 17 (.t 3), .asg 2 (.t 17)]) .ret) (qgCmp_Or_int r))) (qgCmp_Or_int r))
def qgCmp_Or_int_1 (r : Int) : Exit → St → Prop := (blockK 0 (qgCmp_Or_int_0 r))
def stgCmp_Or_int_L0 (p0 : (List Int)) (x8 : Int) : St := ⟨[(3, (.d (.i .i64 0))), (6, (.d (.sl 1 (p0.map cI)))), (7, (.d (.i .i64 (p0.length : Int)))), (8, (.d (.i .i64 x8)))], []⟩
def acgCmp_Compare_string : AC := (.seq (.ops [.asg 4 (.c (.d (.i .i64 0)))]) (.seq (.ops [.mv 7 (.t 0), .call (some 8) 221 [(.t 7)], .asg 5 (.t 8)]) (.seq (.ops [.mv 9 (.t 1), .call (some 10) 221 [(.t 9)], .asg 6 (.t 10)]) (.seq (.seq (.ops [.mv 11 (.t 5)]) (.cond (.t 11) (.seq (.seq (.ops [.mv 12 (.t 6)]) (.cond (.t 12) (.seq (.ops [.asg 4 (.c (.d (.i .i64 0)))]) .ret) .skip)) (.seq (.ops [.asg 4 (.c (.d (.i .i64 (-1))))]) .ret)) .skip)) (.seq (.seq (.ops [.mv 13 (.t 6)]) (.cond (.t 13) (.seq (.ops [.asg 4 (.c (.d (.i .i64 1)))]) .ret) .skip)) (.seq (.seq (.ops [.mv 14 (.t 0), .mv 15 (.t 1), .bin 16 .lss (.t 14) (.t 15)]) (.cond (.t 16) (.seq (.ops [.asg 4 (.c (.d (.i .i64 (-1))))]) .ret) .skip)) (.seq (.seq (.ops [.mv 17 (.t 0), .mv 18 (.t 1), .bin 19 .gtr (.t 17) (.t 18)]) (.cond (.t 19) (.seq (.ops [.asg 4 (.c (.d (.i .i64 1)))]) .ret) .skip)) (.seq (.ops [.asg 4 (.c (.d (.i .i64 0)))]) .ret))))))))
theorem trgCmp_Compare_string : trFn Try.prog 212 = some (acgCmp_Compare_string, [.mv 0 (.t 4)], 20) := by kernel_rfl
def qgCmp_Compare_string (r : Int) : Exit → St → Prop := retQ [.mv 0 (.t 4)] fun x _ => x = (fun y => (.d (.i .i64 y))) r
def acgCmp_isNaN_string : AC := (.seq (.ops [.asg 2 (.c (.d (.b false)))]) (.seq (.ops [.mv 3 (.t 0), .mv 4 (.t 0), .bin 5 .neq (.t 3) (.t 4), .asg 2 (.t 5)]) .ret))
theorem trgCmp_isNaN_string : trFn Try.prog 221 = some (acgCmp_isNaN_string, [.mv 0 (.t 2)], 6) := by kernel_rfl
def qgCmp_isNaN_string (r : Bool) : Exit → St → Prop := retQ [.mv 0 (.t 2)] fun x _ => x = (fun y => (.d (.b y))) r
def aciFitsOp : AC := (.seq (.ops [.box 3 (.t 1), .asg 4 (.c (.d (.b false)))]) (.seq (.block 0 (.seq (.ops [.fa 6 0 (.t 3), .ld 7 1 false (.t 6), .bin 8 .eql (.t 7) (.c (.d (.i .i64 0))), .mv 9 (.t 8), .g 9 false (.mv 10 (.t 0)), .g 9 false (.bin 11 .leq (.t 10) (.c (.d (.i .i64 8)))), .pick 12 (.t 9) (.c (.d (.b true))) (.t 11), .asg 5 (.t 12)]) (.cond (.t 5) (.seq (.ops [.asg 4 (.c (.d (.b true)))]) .ret) (.seq (.ops [.mv 14 (.t 0), .bin 15 .eql (.t 14) (.c (.d (.i .i64 9))), .asg 13 (.t 15)]) (.cond (.t 13) (.seq (.ops [.fa 16 0 (.t 3), .ld 17 1 false (.t 16), .bin 18 .eql (.t 17) (.c (.d (.i .i64 2))), .asg 4 (.t 18)]) .ret) .skip))))) (.seq (.ops [.fa 19 0 (.t 3), .ld 20 1 false (.t 19), .bin 21 .eql (.t 20) (.c (.d (.i .i64 1))), .asg 4 (.t 21)]) .ret)))
theorem triFitsOp : trFn Try.prog 135 = some (aciFitsOp, [.mv 0 (.t 4)], 22) := by kernel_rfl
def qiFitsOp (r : Bool) : Exit → St → Prop := retQ [.mv 0 (.t 4)] fun x _ => x = (fun y => (.d (.b y))) r
def aciValueOk : AC := (.seq (.ops [.box 1 (.t 0), .asg 2 (.c (.d (.b false)))]) (.seq (.seq (.ops [.fa 3 0 (.t 1), .ld 4 1 false (.t 3)]) (.block 0 (.seq (.ops [.bin 6 .eql (.t 4) (.c (.d (.i .i64 0))), .asg 5 (.t 6)]) (.cond (.t 5) (.seq (.ops [.fa 7 1 (.t 1), .ld 8 1 false (.t 7), .bin 9 .eql (.t 8) (.c (.d (.i .i64 0))), .mv 10 (.t 9), .g 10 true (.fa 11 2 (.t 1)), .g 10 true (.ld 12 1 false (.t 11)), .g 10 true (.bin 13 .eql (.t 12) (.c (.d (.s (bs []))))), .pick 14 (.t 10) (.t 13) (.c (.d (.b false))), .asg 2 (.t 14)]) .ret) (.seq (.ops [.bin 16 .eql (.t 4) (.c (.d (.i .i64 1))), .asg 15 (.t 16)]) (.cond (.t 15) (.seq (.ops [.fa 17 2 (.t 1), .ld 18 1 false (.t 17), .bin 19 .eql (.t 18) (.c (.d (.s (bs [])))), .asg 2 (.t 19)]) .ret) (.seq (.ops [.bin 21 .eql (.t 4) (.c (.d (.i .i64 2))), .asg 20 (.t 21)]) (.cond (.t 20) (.seq (.ops [.fa 22 1 (.t 1), .ld 23 1 false (.t 22), .bin 24 .eql (.t 23) (.c (.d (.i .i64 0))), .mv 25 (.t 24), .g 25 true (.fa 26 2 (.t 1)), .g 25 true (.ld 27 1 false (.t 26)), .g 25 true (.lns 28 (.t 27)), .g 25 true (.bin 29 .leq (.t 28) (.c (.d (.i .i64 200)))), .pick 30 (.t 25) (.t 29) (.c (.d (.b false))), .asg 2 (.t 30)]) .ret) (.seq (.ops [.bin 32 .eql (.t 4) (.c (.d (.i .i64 3))), .asg 31 (.t 32)]) (.cond (.t 31) (.seq (.ops [.fa 33 1 (.t 1), .ld 34 1 false (.t 33), .bin 35 .eql (.t 34) (.c (.d (.i .i64 0))), .mv 36 (.t 35), .g 36 false (.fa 37 1 (.t 1)), .g 36 false (.ld 38 1 false (.t 37)), .g 36 false (.bin 39 .eql (.t 38) (.c (.d (.i .i64 1)))), .pick 40 (.t 36) (.c (.d (.b true))) (.t 39), .mv 41 (.t 40), .g 41 true (.fa 42 2 (.t 1)), .g 41 true (.ld 43 1 false (.t 42)), .g 41 true (.bin 44 .eql (.t 43) (.c (.d (.s (bs []))))), .pick 45 (.t 41) (.t 44) (.c (.d (.b false))), .asg 2 (.t 45)]) .ret) .skip)))))))))) (.seq (.ops [.asg 2 (.c (.d (.b false)))]) .ret)))
theorem triValueOk : trFn Try.prog 133 = some (aciValueOk, [.mv 0 (.t 2)], 46) := by kernel_rfl
def qiValueOk (r : Bool) : Exit → St → Prop := retQ [.mv 0 (.t 2)] fun x _ => x = (fun y => (.d (.b y))) r
def aciTextValue : AC := (.seq (.ops [.alc 2 [(.d (.i .i64 0)), (.d (.i .i64 0)), (.d (.s (bs [])))]]) (.seq (.ops [.mv 3 (.t 0), .bld 4 [(.d (.i .i64 0)), (.d (.i .i64 0)), (.d (.s (bs [])))] [(0, 1, (.c (.d (.i .i64 2)))), (2, 1, (.t 3))], .st 3 (.t 2) (.t 4)]) .ret))
theorem triTextValue : trFn Try.prog 138 = some (aciTextValue, [.ld 0 3 true (.t 2)], 5) := by kernel_rfl
def qiTextValue (r : GValue) : Exit → St → Prop := retQ [.ld 0 3 true (.t 2)] fun x _ => x = (fun y => (vGValue y)) r
def aciArithmetic_J0 : AC := (.seq (.seq (.ops [.mv 41 (.t 9), .not 42 (.t 41)]) (.cond (.t 42) (.seq (.ops [.bld 43 [(.d (.i .i64 0)), (.d (.i .i64 0)), (.d (.s (bs [])))] [], .st 3 (.t 6) (.t 43), .asg 7 (.c (.d (.i .i64 2)))]) .ret) .skip)) (.seq (.ops [.mv 44 (.t 8), .call (some 45) 191 [(.t 44)], .st 3 (.t 6) (.t 45), .asg 7 (.c (.d (.i .i64 0)))]) .ret))
def aciArithmetic : AC := (.seq (.ops [.alc 6 [(.d (.i .i64 0)), (.d (.i .i64 0)), (.d (.s (bs [])))], .asg 7 (.c (.d (.i .i64 0)))]) (.seq (.ops [.asg 8 (.c (.d (.i .i64 0))), .asg 9 (.c (.d (.b false)))]) (.seq (.seq (.ops [.mv 10 (.t 0)]) (.block 0 (.seq (.ops [.bin 18 .eql (.t 10) (.c (.d (.i .i64 10))), .asg 17 (.t 18)]) (.cond (.t 17) (.ops [.mv 20 (.t 1), .mv 21 (.t 2), .call (some 22) 187 [(.t 20), (.t 21)], .mv 19 (.t 22), .ext 23 (.t 19) 0, .ext 24 (.t 19) 1, .asg 8 (.t 23), .asg 9 (.t 24)]) (.seq (.ops [.bin 26 .eql (.t 10) (.c (.d (.i .i64 11))), .asg 25 (.t 26)]) (.cond (.t 25) (.ops [.mv 28 (.t 1), .mv 29 (.t 2), .call (some 30) 188 [(.t 28), (.t 29)], .mv 27 (.t 30), .ext 31 (.t 27) 0, .ext 32 (.t 27) 1, .asg 8 (.t 31), .asg 9 (.t 32)]) (.seq (.ops [.bin 34 .eql (.t 10) (.c (.d (.i .i64 12))), .asg 33 (.t 34)]) (.cond (.t 33) (.ops [.mv 36 (.t 1), .mv 37 (.t 2), .call (some 38) 189 [(.t 36), (.t 37)], .mv 35 (.t 38), .ext 39 (.t 35) 0, .ext 40 (.t 35) 1, .asg 8 (.t 39), .asg 9 (.t 40)]) (.seq (.ops [.mv 11 (.t 0), .mv 12 (.t 1), .mv 13 (.t 2), .call (some 14) 190 [(.t 11), (.t 12), (.t 13)], .ext 15 (.t 14) 0, .ext 16 (.t 14) 1, .st 3 (.t 6) (.t 15), .asg 7 (.t 16)]) .ret))))))))) aciArithmetic_J0)))
theorem triArithmetic : trFn Try.prog 137 = some (aciArithmetic, [.ld 0 3 true (.t 6), .mv 0 (.t 7)], 46) := by kernel_rfl
def qiArithmetic (r : GValue × Int) : Exit → St → Prop := retQ [.ld 0 3 true (.t 6), .mv 0 (.t 7)] fun x _ => x = (fun y => (.tup [(vGValue y.1), (.d (.i .i64 y.2))])) r
def stiArithmetic_J0 (x8 : Int) (x9 : Bool) : St := ⟨[(6, (.ptr 6 0)), (8, (.d (.i .i64 x8))), (9, (.d (.b x9)))], [(6, [(.d (.i .i64 0)), (.d (.i .i64 0)), (.d (.s (bs [])))])]⟩
def aciDivided : AC := (.seq (.ops [.alc 6 [(.d (.i .i64 0)), (.d (.i .i64 0)), (.d (.s (bs [])))], .asg 7 (.c (.d (.i .i64 0)))]) (.seq (.block 0 (.seq (.ops [.mv 9 (.t 2), .bin 10 .eql (.t 9) (.c (.d (.i .i64 0))), .asg 8 (.t 10)]) (.cond (.t 8) (.seq (.ops [.bld 11 [(.d (.i .i64 0)), (.d (.i .i64 0)), (.d (.s (bs [])))] [], .st 3 (.t 6) (.t 11), .asg 7 (.c (.d (.i .i64 3)))]) .ret) (.seq (.ops [.mv 13 (.t 0), .bin 14 .eql (.t 13) (.c (.d (.i .i64 14))), .asg 12 (.t 14)]) (.cond (.t 12) (.seq (.ops [.mv 15 (.t 1), .mv 16 (.t 2), .bin 17 .rem (.t 15) (.t 16), .call (some 18) 191 [(.t 17)], .st 3 (.t 6) (.t 18), .asg 7 (.c (.d (.i .i64 0)))]) .ret) (.seq (.ops [.mv 20 (.t 1), .bin 21 .eql (.t 20) (.c (.d (.i .i64 (-9223372036854775808)))), .mv 22 (.t 21), .g 22 true (.mv 23 (.t 2)), .g 22 true (.bin 24 .eql (.t 23) (.c (.d (.i .i64 (-1))))), .pick 25 (.t 22) (.t 24) (.c (.d (.b false))), .asg 19 (.t 25)]) (.cond (.t 19) (.seq (.ops [.bld 26 [(.d (.i .i64 0)), (.d (.i .i64 0)), (.d (.s (bs [])))] [], .st 3 (.t 6) (.t 26), .asg 7 (.c (.d (.i .i64 2)))]) .ret) .skip))))))) (.seq (.ops [.mv 27 (.t 1), .mv 28 (.t 2), .bin 29 .quo (.t 27) (.t 28), .call (some 30) 191 [(.t 29)], .st 3 (.t 6) (.t 30), .asg 7 (.c (.d (.i .i64 0)))]) .ret)))
theorem triDivided : trFn Try.prog 190 = some (aciDivided, [.ld 0 3 true (.t 6), .mv 0 (.t 7)], 31) := by kernel_rfl
def qiDivided (r : GValue × Int) : Exit → St → Prop := retQ [.ld 0 3 true (.t 6), .mv 0 (.t 7)] fun x _ => x = (fun y => (.tup [(vGValue y.1), (.d (.i .i64 y.2))])) r
def aciIntValue : AC := (.seq (.ops [.alc 2 [(.d (.i .i64 0)), (.d (.i .i64 0)), (.d (.s (bs [])))]]) (.seq (.ops [.mv 3 (.t 0), .bld 4 [(.d (.i .i64 0)), (.d (.i .i64 0)), (.d (.s (bs [])))] [(0, 1, (.c (.d (.i .i64 1)))), (1, 1, (.t 3))], .st 3 (.t 2) (.t 4)]) .ret))
theorem triIntValue : trFn Try.prog 191 = some (aciIntValue, [.ld 0 3 true (.t 2)], 5) := by kernel_rfl
def qiIntValue (r : GValue) : Exit → St → Prop := retQ [.ld 0 3 true (.t 2)] fun x _ => x = (fun y => (vGValue y)) r
def aciMulNum : AC := (.seq (.ops [.asg 4 (.c (.d (.i .i64 0))), .asg 5 (.c (.d (.b false)))]) (.seq (.ops [.mv 7 (.t 0), .mv 8 (.t 1), .bin 9 .mul (.t 7) (.t 8), .asg 6 (.t 9)]) (.seq (.seq (.ops [.mv 10 (.t 0), .bin 11 .neq (.t 10) (.c (.d (.i .i64 0))), .mv 12 (.t 11), .g 12 true (.mv 13 (.t 6)), .g 12 true (.mv 14 (.t 0)), .g 12 true (.bin 15 .quo (.t 13) (.t 14)), .g 12 true (.mv 16 (.t 1)), .g 12 true (.bin 17 .neq (.t 15) (.t 16)), .g 12 true (.mv 18 (.t 17)), .g 18 false (.mv 19 (.t 0)), .g 18 false (.bin 20 .eql (.t 19) (.c (.d (.i .i64 (-1))))), .g 18 false (.mv 21 (.t 20)), .g 21 true (.mv 22 (.t 1)), .g 21 true (.bin 23 .eql (.t 22) (.c (.d (.i .i64 (-9223372036854775808))))), .g 18 false (.pick 24 (.t 21) (.t 23) (.c (.d (.b false)))), .g 12 true (.pick 25 (.t 18) (.c (.d (.b true))) (.t 24)), .pick 26 (.t 12) (.t 25) (.c (.d (.b false)))]) (.cond (.t 26) (.seq (.ops [.asg 4 (.c (.d (.i .i64 0))), .asg 5 (.c (.d (.b false)))]) .ret) .skip)) (.seq (.ops [.mv 27 (.t 6), .asg 4 (.t 27), .asg 5 (.c (.d (.b true)))]) .ret))))
theorem triMulNum : trFn Try.prog 189 = some (aciMulNum, [.mv 0 (.t 4), .mv 0 (.t 5)], 28) := by kernel_rfl
def qiMulNum (r : Int × Bool) : Exit → St → Prop := retQ [.mv 0 (.t 4), .mv 0 (.t 5)] fun x _ => x = (fun y => (.tup [(.d (.i .i64 y.1)), (.d (.b y.2))])) r
def aciSubNum : AC := (.seq (.ops [.asg 4 (.c (.d (.i .i64 0))), .asg 5 (.c (.d (.b false)))]) (.seq (.seq (.ops [.mv 6 (.t 1), .bin 7 .lss (.t 6) (.c (.d (.i .i64 0))), .mv 8 (.t 7), .g 8 true (.mv 9 (.t 0)), .g 8 true (.mv 10 (.t 1)), .g 8 true (.bin 11 .add (.c (.d (.i .i64 9223372036854775807))) (.t 10)), .g 8 true (.bin 12 .gtr (.t 9) (.t 11)), .pick 13 (.t 8) (.t 12) (.c (.d (.b false))), .mv 14 (.t 13), .g 14 false (.mv 15 (.t 1)), .g 14 false (.bin 16 .gtr (.t 15) (.c (.d (.i .i64 0)))), .g 14 false (.mv 17 (.t 16)), .g 17 true (.mv 18 (.t 0)), .g 17 true (.mv 19 (.t 1)), .g 17 true (.bin 20 .add (.c (.d (.i .i64 (-9223372036854775808)))) (.t 19)), .g 17 true (.bin 21 .lss (.t 18) (.t 20)), .g 14 false (.pick 22 (.t 17) (.t 21) (.c (.d (.b false)))), .pick 23 (.t 14) (.c (.d (.b true))) (.t 22)]) (.cond (.t 23) (.seq (.ops [.asg 4 (.c (.d (.i .i64 0))), .asg 5 (.c (.d (.b false)))]) .ret) .skip)) (.seq (.ops [.mv 24 (.t 0), .mv 25 (.t 1), .bin 26 .sub (.t 24) (.t 25), .asg 4 (.t 26), .asg 5 (.c (.d (.b true)))]) .ret)))
theorem triSubNum : trFn Try.prog 188 = some (aciSubNum, [.mv 0 (.t 4), .mv 0 (.t 5)], 27) := by kernel_rfl
def qiSubNum (r : Int × Bool) : Exit → St → Prop := retQ [.mv 0 (.t 4), .mv 0 (.t 5)] fun x _ => x = (fun y => (.tup [(.d (.i .i64 y.1)), (.d (.b y.2))])) r
def aciAddNum : AC := (.seq (.ops [.asg 4 (.c (.d (.i .i64 0))), .asg 5 (.c (.d (.b false)))]) (.seq (.seq (.ops [.mv 6 (.t 1), .bin 7 .gtr (.t 6) (.c (.d (.i .i64 0))), .mv 8 (.t 7), .g 8 true (.mv 9 (.t 0)), .g 8 true (.mv 10 (.t 1)), .g 8 true (.bin 11 .sub (.c (.d (.i .i64 9223372036854775807))) (.t 10)), .g 8 true (.bin 12 .gtr (.t 9) (.t 11)), .pick 13 (.t 8) (.t 12) (.c (.d (.b false))), .mv 14 (.t 13), .g 14 false (.mv 15 (.t 1)), .g 14 false (.bin 16 .lss (.t 15) (.c (.d (.i .i64 0)))), .g 14 false (.mv 17 (.t 16)), .g 17 true (.mv 18 (.t 0)), .g 17 true (.mv 19 (.t 1)), .g 17 true (.bin 20 .sub (.c (.d (.i .i64 (-9223372036854775808)))) (.t 19)), .g 17 true (.bin 21 .lss (.t 18) (.t 20)), .g 14 false (.pick 22 (.t 17) (.t 21) (.c (.d (.b false)))), .pick 23 (.t 14) (.c (.d (.b true))) (.t 22)]) (.cond (.t 23) (.seq (.ops [.asg 4 (.c (.d (.i .i64 0))), .asg 5 (.c (.d (.b false)))]) .ret) .skip)) (.seq (.ops [.mv 24 (.t 0), .mv 25 (.t 1), .bin 26 .add (.t 24) (.t 25), .asg 4 (.t 26), .asg 5 (.c (.d (.b true)))]) .ret)))
theorem triAddNum : trFn Try.prog 187 = some (aciAddNum, [.mv 0 (.t 4), .mv 0 (.t 5)], 27) := by kernel_rfl
def qiAddNum (r : Int × Bool) : Exit → St → Prop := retQ [.mv 0 (.t 4), .mv 0 (.t 5)] fun x _ => x = (fun y => (.tup [(.d (.i .i64 y.1)), (.d (.b y.2))])) r
def aciLogic_L0 : AC := (.loop (.seq (.ops [.bin 16 .lss (.t 15) (.t 14)]) (.seq (.cond (.t 16) .skip (.exit 0)) (.seq (.block 1 (.seq (.ops [.ia 17 3 (.t 13) (.t 15), .ld 18 3 true (.t 17), .alc 9 [(.d (.i .i64 0)), (.d (.i .i64 0)), (.d (.s (bs [])))], .st 3 (.t 9) (.t 18)]) (.seq (.ops [.fa 19 0 (.t 9), .ld 20 1 false (.t 19), .bin 21 .neq (.t 20) (.c (.d (.i .i64 3))), .mv 22 (.t 21), .g 22 true (.fa 23 0 (.t 9)), .g 22 true (.ld 24 1 false (.t 23)), .g 22 true (.bin 25 .neq (.t 24) (.c (.d (.i .i64 0)))), .pick 26 (.t 22) (.t 25) (.c (.d (.b false)))]) (.cond (.t 26) (.seq (.ops [.bld 27 [(.d (.i .i64 0)), (.d (.i .i64 0)), (.d (.s (bs [])))] [], .st 3 (.t 6) (.t 27), .asg 7 (.c (.d (.i .i64 1)))]) .ret) .skip)))) (.ops [.bin 28 .add (.t 15) (.c (.d (.i .i64 1))), .mv 15 (.t 28)])))))
def aciLogic : AC := (.seq (.ops [.box 4 (.t 1), .box 5 (.t 2), .alc 6 [(.d (.i .i64 0)), (.d (.i .i64 0)), (.d (.s (bs [])))], .asg 7 (.c (.d (.i .i64 0)))]) (.seq (.seq (.ops [.ld 11 3 true (.t 4), .ld 12 3 true (.t 5), .bsl 13 25 3 [(.t 11), (.t 12)], .len 14 (.t 13), .mv 15 (.c (.d (.i .i64 0)))]) (.block 0 aciLogic_L0)) (.seq (.ops [.mv 29 (.t 0), .bin 30 .eql (.t 29) (.c (.d (.i .i64 1))), .call (some 31) 74 [(.t 30)], .alc 10 [(.d (.i .i64 0)), (.d (.i .i64 0)), (.d (.s (bs [])))], .st 3 (.t 10) (.t 31)]) (.seq (.block 2 (.seq (.ops [.ld 33 3 true (.t 4), .ld 34 3 true (.t 10), .eqv 35 false [0, 0, 1] (.t 33) (.t 34), .mv 36 (.t 35), .g 36 false (.ld 37 3 true (.t 5)), .g 36 false (.ld 38 3 true (.t 10)), .g 36 false (.eqv 39 false [0, 0, 1] (.t 37) (.t 38)), .pick 40 (.t 36) (.c (.d (.b true))) (.t 39), .asg 32 (.t 40)]) (.cond (.t 32) (.seq (.ops [.ld 41 3 true (.t 10), .st 3 (.t 6) (.t 41), .asg 7 (.c (.d (.i .i64 0)))]) .ret) (.seq (.ops [.fa 43 0 (.t 4), .ld 44 1 false (.t 43), .bin 45 .eql (.t 44) (.c (.d (.i .i64 0))), .mv 46 (.t 45), .g 46 false (.fa 47 0 (.t 5)), .g 46 false (.ld 48 1 false (.t 47)), .g 46 false (.bin 49 .eql (.t 48) (.c (.d (.i .i64 0)))), .pick 50 (.t 46) (.c (.d (.b true))) (.t 49), .asg 42 (.t 50)]) (.cond (.t 42) (.seq (.ops [.bld 51 [(.d (.i .i64 0)), (.d (.i .i64 0)), (.d (.s (bs [])))] [], .st 3 (.t 6) (.t 51), .asg 7 (.c (.d (.i .i64 0)))]) .ret) .skip))))) (.seq (.ops [.mv 52 (.t 0), .bin 53 .eql (.t 52) (.c (.d (.i .i64 2))), .call (some 54) 74 [(.t 53)], .st 3 (.t 6) (.t 54), .asg 7 (.c (.d (.i .i64 0)))]) .ret)))))
theorem triLogic : trFn Try.prog 134 = some (aciLogic, [.ld 0 3 true (.t 6), .mv 0 (.t 7)], 55) := by kernel_rfl
def qiLogic (r : GValue × Int) : Exit → St → Prop := retQ [.ld 0 3 true (.t 6), .mv 0 (.t 7)] fun x _ => x = (fun y => (.tup [(vGValue y.1), (.d (.i .i64 y.2))])) r
def qiLogic_0 (r : GValue × Int) : Exit → St → Prop := (thenK (wkK (avc Try.prog (.seq (.ops [.mv 29 (.t 0), .bin 30 .eql (.t 29) (.c (.d (.i .i64 1))), .call (some 31) 74 [(.t 30)], .alc 10 [(.d (.i .i64 0)), (.d (.i .i64 0)), (.d (.s (bs [])))], .st 3 (.t 10) (.t 31)]) (.seq (.block 2 (.seq (.ops [.ld 33 3 true (.t 4), .ld 34 3 true (.t 10), .eqv 35 false [0, 0, 1] (.t 33) (.t 34), .mv 36 (.t 35), .g 36 false (.ld 37 3 true (.t 5)), .g 36 false (.ld 38 3 true (.t 10)), .g 36 false (.eqv 39 false [0, 0, 1] (.t 37) (.t 38)), .pick 40 (.t 36) (.c (.d (.b true))) (.t 39), .asg 32 (.t 40)]) (.cond (.t 32) (.seq (.ops [.ld 41 3 true (.t 10), .st 3 (.t 6) (.t 41), .asg 7 (.c (.d (.i .i64 0)))]) .ret) (.seq (.ops [.fa 43 0 (.t 4), .ld 44 1 false (.t 43), .bin 45 .eql (.t 44) (.c (.d (.i .i64 0))), .mv 46 (.t 45), .g 46 false (.fa 47 0 (.t 5)), .g 46 false (.ld 48 1 false (.t 47)), .g 46 false (.bin 49 .eql (.t 48) (.c (.d (.i .i64 0)))), .pick 50 (.t 46) (.c (.d (.b true))) (.t 49), .asg 42 (.t 50)]) (.cond (.t 42) (.seq (.ops [.bld 51 [(.d (.i .i64 0)), (.d (.i .i64 0)), (.d (.s (bs [])))] [], .st 3 (.t 6) (.t 51), .asg 7 (.c (.d (.i .i64 0)))]) .ret) .skip))))) (.seq (.ops [.mv 52 (.t 0), .bin 53 .eql (.t 52) (.c (.d (.i .i64 2))), .call (some 54) 74 [(.t 53)], .st 3 (.t 6) (.t 54), .asg 7 (.c (.d (.i .i64 0)))]) .ret))) (qiLogic r))) (qiLogic r))
def qiLogic_1 (r : GValue × Int) : Exit → St → Prop := (blockK 0 (qiLogic_0 r))
def stiLogic_L0 (p0 : Int) (p1 : GValue) (p2 : GValue) (x15 : Int) : St := ⟨[(0, (.d (.i .i64 p0))), (4, (.ptr 4 0)), (5, (.ptr 5 0)), (6, (.ptr 6 0)), (13, (.osl 13 25 3 (([p1, p2] : List GValue).map cGValue))), (14, (.d (.i .i64 (([p1, p2] : List GValue).length : Int)))), (15, (.d (.i .i64 x15)))], [(4, [(.d (.i .i64 p1.kind)), (.d (.i .i64 p1.num)), (.d (.s (bs p1.text)))]), (5, [(.d (.i .i64 p2.kind)), (.d (.i .i64 p2.num)), (.d (.s (bs p2.text)))]), (6, [(.d (.i .i64 0)), (.d (.i .i64 0)), (.d (.s (bs [])))])]⟩
def acsDrawWithin_L0 : AC := (.loop (.seq (.seq (.ops [.mv 17 (.t 8), .mv 18 (.t 7), .bin 19 .lss (.t 17) (.t 18)]) (.cond (.t 19) .skip (.exit 0))) (.seq (.block 1 (.ops [.mv 22 (.t 6), .mv 23 (.t 4), .mv 24 (.t 5), .call (some 25) 79 [(.t 23), (.t 24)], .bsl 26 25 3 [(.t 25)], .app 27 25 3 32 (.t 22) (.t 26), .asg 6 (.t 27)])) (.ops [.mv 20 (.t 8), .bin 21 .add (.t 20) (.c (.d (.i .i64 1))), .asg 8 (.t 21)]))))
def acsDrawWithin_J1 : AC := (.seq (.ops [.mv 35 (.t 4), .mv 36 (.t 5), .call (some 37) 79 [(.t 35), (.t 36)], .mv 38 (.t 6), .st 3 (.t 2) (.t 37), .asg 3 (.t 38)]) .ret)
def acsDrawWithin : AC := (.seq (.ops [.alc 2 [(.d (.i .i64 0)), (.d (.i .i64 0)), (.d (.s (bs [])))], .asg 3 (.c (.nil 3))]) (.seq (.ops [.mv 9 (.t 0), .call (some 10) 75 [(.t 9)], .asg 4 (.t 10)]) (.seq (.ops [.mv 11 (.t 4), .call (some 12) 76 [(.t 11), (.c (.d (.i .i64 3)))], .bin 13 .add (.c (.d (.i .i64 1))) (.t 12), .asg 5 (.t 13)]) (.seq (.ops [.bsl 14 25 3 [], .asg 6 (.t 14)]) (.seq (.ops [.mv 15 (.t 4), .call (some 16) 76 [(.t 15), (.c (.d (.i .i64 5)))], .asg 7 (.t 16)]) (.seq (.seq (.ops [.asg 8 (.c (.d (.i .i64 0)))]) (.block 0 acsDrawWithin_L0)) (.seq (.seq (.ops [.mv 28 (.t 4), .call (some 29) 77 [(.t 28), (.c (.d (.i .i64 6)))]]) (.cond (.t 29) (.ops [.mv 30 (.t 6), .mv 31 (.t 4), .call (some 32) 78 [(.t 31)], .bsl 33 25 3 [(.t 32)], .app 34 25 3 32 (.t 30) (.t 33), .asg 6 (.t 34)]) .skip)) acsDrawWithin_J1)))))))
theorem trsDrawWithin : trFn Try.prog 55 = some (acsDrawWithin, [.ld 0 3 true (.t 2), .mv 0 (.t 3)], 39) := by kernel_rfl
def qsDrawWithin (r : GValue × (List GValue)) : Exit → St → Prop := retQ [.ld 0 3 true (.t 2), .mv 0 (.t 3)] fun x b => x = (fun (y : GValue × (List GValue)) => (.tup [(vGValue y.1), (.osl 2000001 25 3 (y.2.map cGValue))])) r ∧ bxHas ((fun (y : GValue × (List GValue)) => []) r) b
def qsDrawWithin_0 (r : GValue × (List GValue)) : Exit → St → Prop := (thenK (wkK (avc Try.prog (.seq (.seq (.ops [.mv 28 (.t 4), .call (some 29) 77 [(.t 28), (.c (.d (.i .i64 6)))]]) (.cond (.t 29) (.ops [.mv 30 (.t 6), .mv 31 (.t 4), .call (some 32) 78 [(.t 31)], .bsl 33 25 3 [(.t 32)], .app 34 25 3 32 (.t 30) (.t 33), .asg 6 (.t 34)]) .skip)) acsDrawWithin_J1) (qsDrawWithin r))) (qsDrawWithin r))
def qsDrawWithin_1 (r : GValue × (List GValue)) : Exit → St → Prop := (blockK 0 (qsDrawWithin_0 r))
def stsDrawWithin_L0 (y2 : Int × GL1Cur) (y3 : Int × GL1Cur) (x6 : (List GValue)) (x8 : Int) (b10_0 : (List Int)) (b10_1 : Int) (b10_2 : Int) : St := ⟨[(2, (.ptr 2 0)), (4, (.ptr 10 0)), (5, (.d (.i .i64 (IntKind.wrap .i64 (1 + y2.1))))), (6, (.osl 6 25 3 (x6.map cGValue))), (7, (.d (.i .i64 y3.1))), (8, (.d (.i .i64 x8)))], [(2, [(.d (.i .i64 0)), (.d (.i .i64 0)), (.d (.s (bs [])))]), (10, bGL1Cur (GL1Cur.mk b10_0 b10_1 b10_2))]⟩
def stsDrawWithin_J1 (y2 : Int × GL1Cur) (x6_9 : (List GValue)) (b10_0_10 : (List Int)) (b10_1_11 : Int) (b10_2_12 : Int) : St := ⟨[(2, (.ptr 2 0)), (4, (.ptr 10 0)), (5, (.d (.i .i64 (IntKind.wrap .i64 (1 + y2.1))))), (6, (.osl 6 25 3 (x6_9.map cGValue)))], [(2, [(.d (.i .i64 0)), (.d (.i .i64 0)), (.d (.s (bs [])))]), (10, bGL1Cur (GL1Cur.mk b10_0_10 b10_1_11 b10_2_12))]⟩
def acsL1Once : AC := (.seq (.ops [.asg 4 (.c (.d (.b false)))]) (.seq (.ops [.mv 5 (.t 0), .mv 6 (.t 1), .call (some 7) 76 [(.t 5), (.t 6)], .bin 8 .eql (.t 7) (.c (.d (.i .i64 0))), .asg 4 (.t 8)]) .ret))
theorem trsL1Once : trFn Try.prog 77 = some (acsL1Once, [.mv 0 (.t 4)], 9) := by kernel_rfl
def qsL1Once (r : Bool × GL1Cur) : Exit → St → Prop := retQ [.mv 0 (.t 4)] fun x b => x = (fun (y : Bool × GL1Cur) => (.d (.b y.1))) r ∧ bxHas ((fun (y : Bool × GL1Cur) => [(1000000, bGL1Cur y.2)]) r) b
def acsL1Below : AC := (.seq (.ops [.asg 4 (.c (.d (.i .i64 0)))]) (.seq (.seq (.ops [.mv 9 (.t 1), .bin 10 .leq (.t 9) (.c (.d (.i .i64 0)))]) (.cond (.t 10) (.seq (.ops [.asg 4 (.c (.d (.i .i64 0)))]) .ret) .skip)) (.seq (.seq (.ops [.mv 11 (.t 1), .bin 12 .leq (.t 11) (.c (.d (.i .i64 256)))]) (.cond (.t 12) (.seq (.ops [.mv 13 (.t 0), .call (some 14) 147 [(.t 13)], .mv 15 (.t 1), .bin 16 .rem (.t 14) (.t 15), .asg 4 (.t 16)]) .ret) .skip)) (.seq (.ops [.mv 17 (.t 0), .call (some 18) 147 [(.t 17)], .asg 5 (.t 18)]) (.seq (.ops [.mv 19 (.t 0), .call (some 20) 147 [(.t 19)], .asg 6 (.t 20)]) (.seq (.ops [.mv 21 (.t 0), .call (some 22) 147 [(.t 21)], .asg 7 (.t 22)]) (.seq (.ops [.mv 23 (.t 0), .call (some 24) 147 [(.t 23)], .asg 8 (.t 24)]) (.seq (.ops [.mv 25 (.t 5), .bin 26 .mul (.t 25) (.c (.d (.i .i64 16777216))), .mv 27 (.t 6), .bin 28 .mul (.t 27) (.c (.d (.i .i64 65536))), .bin 29 .add (.t 26) (.t 28), .mv 30 (.t 7), .bin 31 .mul (.t 30) (.c (.d (.i .i64 256))), .bin 32 .add (.t 29) (.t 31), .mv 33 (.t 8), .bin 34 .add (.t 32) (.t 33), .mv 35 (.t 1), .bin 36 .rem (.t 34) (.t 35), .asg 4 (.t 36)]) .ret))))))))
theorem trsL1Below : trFn Try.prog 76 = some (acsL1Below, [.mv 0 (.t 4)], 37) := by kernel_rfl
def qsL1Below (r : Int × GL1Cur) : Exit → St → Prop := retQ [.mv 0 (.t 4)] fun x b => x = (fun (y : Int × GL1Cur) => (.d (.i .i64 y.1))) r ∧ bxHas ((fun (y : Int × GL1Cur) => [(1000000, bGL1Cur y.2)]) r) b
def acsL1Byte_J0 : AC := (.seq (.ops [.mv 57 (.t 3), .asg 2 (.t 57)]) .ret)
def acsL1Byte : AC := (.seq (.ops [.asg 2 (.c (.d (.i .i64 0)))]) (.seq (.ops [.mv 4 (.t 0), .mv 5 (.t 0), .nck 6 (.t 5), .fa 7 2 (.t 6), .ld 8 1 false (.t 7), .bin 9 .mul (.t 8) (.c (.d (.i .i64 6364136223846793005))), .bin 10 .add (.t 9) (.c (.d (.i .i64 1442695040888963407))), .nck 11 (.t 4), .fa 12 2 (.t 11), .st 1 (.t 12) (.t 10)]) (.seq (.dops [[], [0], [1], [2], [3], [], [5], [6], [7], [8], [4, 9], [10], [11, 0, 1, 2, 3, 4, 5, 6, 7, 8, 9, 10, 11]] [.mv 13 (.t 0), .nck 14 (.t 13), .fa 15 2 (.t 14), .ld 16 1 false (.t 15), .bin 17 .shr (.t 16) (.c (.d (.i .u64 33))), .mv 18 (.t 0), .nck 19 (.t 18), .fa 20 2 (.t 19), .ld 21 1 false (.t 20), .bin 22 .shr (.t 21) (.c (.d (.i .u64 45))), .bin 23 .xor (.t 17) (.t 22), .bin 24 .and (.t 23) (.c (.d (.i .i64 255))), .asg 3 (.t 24)]) (.seq (.seq (.dops [[], [0], [1], [2], [], [4], [5], [6], [7], [3, 8]] [.mv 25 (.t 0), .nck 26 (.t 25), .fa 27 1 (.t 26), .ld 28 1 false (.t 27), .mv 29 (.t 0), .nck 30 (.t 29), .fa 31 0 (.t 30), .ld 32 1 false (.t 31), .len 33 (.t 32), .bin 34 .lss (.t 28) (.t 33)]) (.cond (.t 34) (.seq (.dops [[], [], [1], [2], [3], [], [5], [6], [7], [4, 8], [9], [10], [0, 11], [12], [13, 0, 1, 2, 3, 4, 5, 6, 7, 8, 9, 10, 11, 12, 13]] [.mv 35 (.t 3), .mv 36 (.t 0), .nck 37 (.t 36), .fa 38 0 (.t 37), .ld 39 1 false (.t 38), .mv 40 (.t 0), .nck 41 (.t 40), .fa 42 1 (.t 41), .ld 43 1 false (.t 42), .ia 44 1 (.t 39) (.t 43), .ld 45 1 false (.t 44), .cvi 46 .i64 (.t 45), .bin 47 .add (.t 35) (.t 46), .bin 48 .and (.t 47) (.c (.d (.i .i64 255))), .asg 3 (.t 48)]) (.ops [.mv 49 (.t 0), .mv 50 (.t 0), .nck 51 (.t 50), .fa 52 1 (.t 51), .ld 53 1 false (.t 52), .bin 54 .add (.t 53) (.c (.d (.i .i64 1))), .nck 55 (.t 49), .fa 56 1 (.t 55), .st 1 (.t 56) (.t 54)])) .skip)) acsL1Byte_J0))))
theorem trsL1Byte : trFn Try.prog 147 = some (acsL1Byte, [.mv 0 (.t 2)], 58) := by kernel_rfl
def qsL1Byte (r : Int × GL1Cur) : Exit → St → Prop := retQ [.mv 0 (.t 2)] fun x b => x = (fun (y : Int × GL1Cur) => (.d (.i .i64 y.1))) r ∧ bxHas ((fun (y : Int × GL1Cur) => [(1000000, bGL1Cur y.2)]) r) b
def stsL1Byte_J0 (p0 : GL1Cur) (x3 : Int) (b1000000_1 : Int) : St := ⟨[(3, (.d (.i .i64 x3)))], [(1000000, bGL1Cur (GL1Cur.mk p0.b b1000000_1 (IntKind.wrap .i64 ((IntKind.wrap .i64 (p0.h * 6364136223846793005)) + 1442695040888963407))))]⟩
def acsL26Value : AC := (.seq (.ops [.alc 4 [(.d (.i .i64 0)), (.d (.i .i64 0)), (.d (.s (bs [])))]]) (.seq (.seq (.ops [.mv 5 (.t 1), .bin 6 .eql (.t 5) (.c (.d (.i .i64 1))), .mv 7 (.t 6), .g 7 true (.mv 8 (.t 0)), .g 7 true (.call (some 9) 77 [(.t 8), (.c (.d (.i .i64 12)))]), .g 7 true (.not 10 (.t 9)), .pick 11 (.t 7) (.t 10) (.c (.d (.b false)))]) (.cond (.t 11) (.seq (.ops [.mv 12 (.t 0), .call (some 13) 76 [(.t 12), (.c (.d (.i .i64 5)))], .bin 14 .sub (.t 13) (.c (.d (.i .i64 1))), .call (some 15) 151 [(.t 14)], .st 3 (.t 4) (.t 15)]) .ret) .skip)) (.seq (.ops [.mv 16 (.t 0), .mv 17 (.t 1), .call (some 18) 152 [(.t 16), (.t 17)], .st 3 (.t 4) (.t 18)]) .ret)))
theorem trsL26Value : trFn Try.prog 79 = some (acsL26Value, [.ld 0 3 true (.t 4)], 19) := by kernel_rfl
def qsL26Value (r : GValue × GL1Cur) : Exit → St → Prop := retQ [.ld 0 3 true (.t 4)] fun x b => x = (fun (y : GValue × GL1Cur) => (vGValue y.1)) r ∧ bxHas ((fun (y : GValue × GL1Cur) => [(1000000, bGL1Cur y.2)]) r) b
def acsL6Typed : AC := (.seq (.ops [.alc 4 [(.d (.i .i64 0)), (.d (.i .i64 0)), (.d (.s (bs [])))]]) (.seq (.seq (.ops [.mv 5 (.t 0), .call (some 6) 77 [(.t 5), (.c (.d (.i .i64 6)))]]) (.cond (.t 6) (.seq (.ops [.bld 7 [(.d (.i .i64 0)), (.d (.i .i64 0)), (.d (.s (bs [])))] [], .st 3 (.t 4) (.t 7)]) .ret) .skip)) (.seq (.seq (.ops [.mv 8 (.t 1)]) (.block 0 (.seq (.ops [.bin 10 .eql (.t 8) (.c (.d (.i .i64 2))), .asg 9 (.t 10)]) (.cond (.t 9) (.seq (.ops [.mv 11 (.t 0), .bsl 12 9 1 [(.c (.d (.s (bs [])))), (.c (.d (.s (bs [97])))), (.c (.d (.s (bs [98])))), (.c (.d (.s (bs [97, 98]))))], .call (some 13) 150 [(.t 11), (.t 12)], .call (some 14) 126 [(.t 13)], .st 3 (.t 4) (.t 14)]) .ret) (.seq (.ops [.bin 16 .eql (.t 8) (.c (.d (.i .i64 3))), .asg 15 (.t 16)]) (.cond (.t 15) (.seq (.ops [.mv 17 (.t 0), .call (some 18) 77 [(.t 17), (.c (.d (.i .i64 2)))], .call (some 19) 37 [(.t 18)], .st 3 (.t 4) (.t 19)]) .ret) .skip)))))) (.seq (.ops [.mv 20 (.t 0), .call (some 21) 149 [(.t 20)], .call (some 22) 151 [(.t 21)], .st 3 (.t 4) (.t 22)]) .ret))))
theorem trsL6Typed : trFn Try.prog 152 = some (acsL6Typed, [.ld 0 3 true (.t 4)], 23) := by kernel_rfl
def qsL6Typed (r : GValue × GL1Cur) : Exit → St → Prop := retQ [.ld 0 3 true (.t 4)] fun x b => x = (fun (y : GValue × GL1Cur) => (vGValue y.1)) r ∧ bxHas ((fun (y : GValue × GL1Cur) => [(1000000, bGL1Cur y.2)]) r) b
def acsL1Pick : AC := (.seq (.ops [.asg 4 (.c (.d (.s (bs []))))]) (.seq (.ops [.mv 5 (.t 1), .mv 6 (.t 0), .mv 7 (.t 1), .len 8 (.t 7), .call (some 9) 76 [(.t 6), (.t 8)], .ia 10 1 (.t 5) (.t 9), .ld 11 1 false (.t 10), .asg 4 (.t 11)]) .ret))
theorem trsL1Pick : trFn Try.prog 150 = some (acsL1Pick, [.mv 0 (.t 4)], 12) := by kernel_rfl
def qsL1Pick (r : (List UInt8) × GL1Cur) : Exit → St → Prop := retQ [.mv 0 (.t 4)] fun x b => x = (fun (y : (List UInt8) × GL1Cur) => (.d (.s (bs y.1)))) r ∧ bxHas ((fun (y : (List UInt8) × GL1Cur) => [(1000000, bGL1Cur y.2)]) r) b
def acsL1Whole : AC := (.seq (.ops [.asg 2 (.c (.d (.i .i64 0)))]) (.seq (.seq (.ops [.mv 3 (.t 0), .call (some 4) 76 [(.t 3), (.c (.d (.i .i64 3)))]]) (.block 0 (.seq (.ops [.bin 6 .eql (.t 4) (.c (.d (.i .i64 0))), .asg 5 (.t 6)]) (.cond (.t 5) (.seq (.ops [.mv 7 (.t 0), .bsl 8 3 1 [(.c (.d (.i .i64 0))), (.c (.d (.i .i64 1))), (.c (.d (.i .i64 (-1)))), (.c (.d (.i .i64 63))), (.c (.d (.i .i64 64))), (.c (.d (.i .i64 (-64)))), (.c (.d (.i .i64 (-65)))), (.c (.d (.i .i64 127))), (.c (.d (.i .i64 128))), (.c (.d (.i .i64 16383))), (.c (.d (.i .i64 16384))), (.c (.d (.i .i64 9223372036854775807))), (.c (.d (.i .i64 (-9223372036854775808)))), (.c (.d (.i .i64 4611686018427387904)))], .call (some 9) 184 [(.t 7), (.t 8)], .asg 2 (.t 9)]) .ret) (.seq (.ops [.bin 11 .eql (.t 4) (.c (.d (.i .i64 1))), .asg 10 (.t 11)]) (.cond (.t 10) (.seq (.ops [.mv 12 (.t 0), .call (some 13) 76 [(.t 12), (.c (.d (.i .i64 1000000)))], .bin 14 .sub (.t 13) (.c (.d (.i .i64 500000))), .asg 2 (.t 14)]) .ret) .skip)))))) (.seq (.ops [.mv 15 (.t 0), .call (some 16) 76 [(.t 15), (.c (.d (.i .i64 20)))], .asg 2 (.t 16)]) .ret)))
theorem trsL1Whole : trFn Try.prog 149 = some (acsL1Whole, [.mv 0 (.t 2)], 17) := by kernel_rfl
def qsL1Whole (r : Int × GL1Cur) : Exit → St → Prop := retQ [.mv 0 (.t 2)] fun x b => x = (fun (y : Int × GL1Cur) => (.d (.i .i64 y.1))) r ∧ bxHas ((fun (y : Int × GL1Cur) => [(1000000, bGL1Cur y.2)]) r) b
def acsL1PickInt : AC := (.seq (.ops [.asg 4 (.c (.d (.i .i64 0)))]) (.seq (.ops [.mv 5 (.t 1), .mv 6 (.t 0), .mv 7 (.t 1), .len 8 (.t 7), .call (some 9) 76 [(.t 6), (.t 8)], .ia 10 1 (.t 5) (.t 9), .ld 11 1 false (.t 10), .asg 4 (.t 11)]) .ret))
theorem trsL1PickInt : trFn Try.prog 184 = some (acsL1PickInt, [.mv 0 (.t 4)], 12) := by kernel_rfl
def qsL1PickInt (r : Int × GL1Cur) : Exit → St → Prop := retQ [.mv 0 (.t 4)] fun x b => x = (fun (y : Int × GL1Cur) => (.d (.i .i64 y.1))) r ∧ bxHas ((fun (y : Int × GL1Cur) => [(1000000, bGL1Cur y.2)]) r) b
def acsL5Bent_J0 : AC := (.seq (.ops [.ld 40 3 true (.t 3), .st 3 (.t 2) (.t 40)]) .ret)
def acsL5Bent_L1 : AC := (.loop (.seq (.seq (.ops [.mv 25 (.t 0), .call (some 26) 77 [(.t 25), (.c (.d (.i .i64 2)))], .mv 27 (.t 26), .g 27 true (.fa 28 2 (.t 3)), .g 27 true (.ld 29 1 false (.t 28)), .g 27 true (.lns 30 (.t 29)), .g 27 true (.bin 31 .lss (.t 30) (.c (.d (.i .i64 400)))), .pick 32 (.t 27) (.t 31) (.c (.d (.b false)))]) (.cond (.t 32) .skip (.exit 1))) (.block 2 (.ops [.fa 33 2 (.t 3), .ld 34 1 false (.t 33), .fa 35 2 (.t 3), .ld 36 1 false (.t 35), .bin 37 .add (.t 34) (.t 36), .bin 38 .add (.t 37) (.c (.d (.s (bs [48, 49, 50, 51, 52, 53, 54, 55, 56, 57])))), .fa 39 2 (.t 3), .st 1 (.t 39) (.t 38)]))))
def acsL5Bent : AC := (.seq (.ops [.alc 2 [(.d (.i .i64 0)), (.d (.i .i64 0)), (.d (.s (bs [])))]]) (.seq (.ops [.mv 4 (.t 0), .call (some 5) 148 [(.t 4)], .alc 3 [(.d (.i .i64 0)), (.d (.i .i64 0)), (.d (.s (bs [])))], .st 3 (.t 3) (.t 5)]) (.seq (.seq (.ops [.mv 6 (.t 0), .call (some 7) 76 [(.t 6), (.c (.d (.i .i64 14)))]]) (.block 0 (.seq (.ops [.bin 9 .eql (.t 7) (.c (.d (.i .i64 0))), .asg 8 (.t 9)]) (.cond (.t 8) (.ops [.mv 10 (.t 0), .call (some 11) 76 [(.t 10), (.c (.d (.i .i64 6)))], .bin 12 .sub (.t 11) (.c (.d (.i .i64 1))), .fa 13 0 (.t 3), .st 1 (.t 13) (.t 12)]) (.seq (.ops [.bin 15 .eql (.t 7) (.c (.d (.i .i64 1))), .asg 14 (.t 15)]) (.cond (.t 14) (.ops [.mv 16 (.t 0), .call (some 17) 149 [(.t 16)], .fa 18 1 (.t 3), .st 1 (.t 18) (.t 17)]) (.seq (.ops [.bin 20 .eql (.t 7) (.c (.d (.i .i64 2))), .asg 19 (.t 20)]) (.cond (.t 19) (.seq (.ops [.mv 21 (.t 0), .bsl 22 9 1 [(.c (.d (.s (bs [120])))), (.c (.d (.s (bs [])))), (.c (.d (.s (bs [108, 111, 110, 103]))))], .call (some 23) 150 [(.t 21), (.t 22)], .fa 24 2 (.t 3), .st 1 (.t 24) (.t 23)]) (.block 1 acsL5Bent_L1)) .skip)))))))) acsL5Bent_J0)))
theorem trsL5Bent : trFn Try.prog 78 = some (acsL5Bent, [.ld 0 3 true (.t 2)], 41) := by kernel_rfl
def qsL5Bent (r : GValue × GL1Cur) : Exit → St → Prop := retQ [.ld 0 3 true (.t 2)] fun x b => x = (fun (y : GValue × GL1Cur) => (vGValue y.1)) r ∧ bxHas ((fun (y : GValue × GL1Cur) => [(1000000, bGL1Cur y.2)]) r) b
def qsL5Bent_0 (r : GValue × GL1Cur) : Exit → St → Prop := (thenK (wkK (avc Try.prog acsL5Bent_J0 (qsL5Bent r))) (qsL5Bent r))
def qsL5Bent_1 (r : GValue × GL1Cur) : Exit → St → Prop := (blockK 0 (qsL5Bent_0 r))
def qsL5Bent_2 (r : GValue × GL1Cur) : Exit → St → Prop := (blockK 1 (qsL5Bent_1 r))
def stsL5Bent_J0 (b3_0 : Int) (b3_1 : Int) (b3_2 : (List UInt8)) (b1000000_0 : (List Int)) (b1000000_1 : Int) (b1000000_2 : Int) : St := ⟨[(2, (.ptr 2 0)), (3, (.ptr 3 0))], [(2, [(.d (.i .i64 0)), (.d (.i .i64 0)), (.d (.s (bs [])))]), (3, [(.d (.i .i64 b3_0)), (.d (.i .i64 b3_1)), (.d (.s (bs b3_2)))]), (1000000, bGL1Cur (GL1Cur.mk b1000000_0 b1000000_1 b1000000_2))]⟩
def stsL5Bent_L1 (y1 : GValue × GL1Cur) (b3_2_6 : (List UInt8)) (b1000000_0_7 : (List Int)) (b1000000_1_8 : Int) (b1000000_2_9 : Int) : St := ⟨[(0, (.ptr 1000000 0)), (2, (.ptr 2 0)), (3, (.ptr 3 0))], [(2, [(.d (.i .i64 0)), (.d (.i .i64 0)), (.d (.s (bs [])))]), (3, [(.d (.i .i64 y1.1.kind)), (.d (.i .i64 y1.1.num)), (.d (.s (bs b3_2_6)))]), (1000000, bGL1Cur (GL1Cur.mk b1000000_0_7 b1000000_1_8 b1000000_2_9))]⟩
def acsL5Right : AC := (.seq (.ops [.alc 2 [(.d (.i .i64 0)), (.d (.i .i64 0)), (.d (.s (bs [])))]]) (.seq (.seq (.ops [.mv 3 (.t 0), .call (some 4) 76 [(.t 3), (.c (.d (.i .i64 6)))]]) (.block 0 (.seq (.ops [.bin 6 .eql (.t 4) (.c (.d (.i .i64 0))), .asg 5 (.t 6)]) (.cond (.t 5) (.seq (.ops [.bld 7 [(.d (.i .i64 0)), (.d (.i .i64 0)), (.d (.s (bs [])))] [], .st 3 (.t 2) (.t 7)]) .ret) (.seq (.ops [.bin 9 .eql (.t 4) (.c (.d (.i .i64 1))), .asg 8 (.t 9)]) (.cond (.t 8) (.seq (.ops [.mv 10 (.t 0), .bsl 11 9 1 [(.c (.d (.s (bs [])))), (.c (.d (.s (bs [97])))), (.c (.d (.s (bs [98])))), (.c (.d (.s (bs [105, 116, 39, 115])))), (.c (.d (.s (bs [97, 98])))), (.c (.d (.s (bs [255]))))], .call (some 12) 150 [(.t 10), (.t 11)], .call (some 13) 126 [(.t 12)], .st 3 (.t 2) (.t 13)]) .ret) (.seq (.ops [.bin 15 .eql (.t 4) (.c (.d (.i .i64 2))), .asg 14 (.t 15)]) (.cond (.t 14) (.seq (.ops [.mv 16 (.t 0), .call (some 17) 77 [(.t 16), (.c (.d (.i .i64 2)))], .call (some 18) 37 [(.t 17)], .st 3 (.t 2) (.t 18)]) .ret) (.seq (.ops [.bin 20 .eql (.t 4) (.c (.d (.i .i64 3))), .asg 19 (.t 20)]) (.cond (.t 19) (.seq (.ops [.mv 21 (.t 0), .call (some 22) 149 [(.t 21)], .call (some 23) 151 [(.t 22)], .st 3 (.t 2) (.t 23)]) .ret) .skip)))))))))) (.seq (.ops [.mv 24 (.t 0), .call (some 25) 76 [(.t 24), (.c (.d (.i .i64 7)))], .bin 26 .sub (.t 25) (.c (.d (.i .i64 2))), .call (some 27) 151 [(.t 26)], .st 3 (.t 2) (.t 27)]) .ret)))
theorem trsL5Right : trFn Try.prog 148 = some (acsL5Right, [.ld 0 3 true (.t 2)], 28) := by kernel_rfl
def qsL5Right (r : GValue × GL1Cur) : Exit → St → Prop := retQ [.ld 0 3 true (.t 2)] fun x b => x = (fun (y : GValue × GL1Cur) => (vGValue y.1)) r ∧ bxHas ((fun (y : GValue × GL1Cur) => [(1000000, bGL1Cur y.2)]) r) b
theorem koGValue (x : GValue) (h : ∀ d ∈ cGValue x, OkD d) : okGValue x := ⟨ko_i _ (ko_sub h 0 1), ko_i _ (ko_sub h 1 1), ko_s _ (ko_sub h 2 1)⟩
theorem koGL1Cur (x : GL1Cur) (h : ∀ d ∈ cGL1Cur x, OkD d) : okGL1Cur x := ⟨ko_l _ (fun y hy => ko_u8 _ hy) (ko_sub h 0 1), ko_i _ (ko_sub h 1 1), ko_i _ (ko_sub h 2 1)⟩
theorem de5 {l : List D} (h : WtC Try.prog 5 l) : ∃ x : Int, l = cU8 x := (wt_i h (k := .u8) (by kernel_rfl))
theorem de22 {l : List D} (h : WtC Try.prog 22 l) : ∃ x : (List Int), l = (cSl 1 cU8) x := (wt_sl h (e := 5) (n := 1) (c := cU8) (by kernel_rfl) (by kernel_rfl) fun x hx => de5 hx)
theorem OK_iBoolValue_J0 (b3_1 : Int) (r : GValue) (h : iBoolValue_J0 b3_1 = some r) : avc Try.prog aciBoolValue_J0 (qiBoolValue r) (stiBoolValue_J0 b3_1) := by
  rw [iBoolValue_J0] at h
  delta aciBoolValue_J0
  refine seq_in ?_
  refine ops_in ?_
  refine sts_ok 2 (s' := ⟨(7, (vGValue (GValue.mk 3 b3_1 []))) :: (stiBoolValue_J0 b3_1).env, [(2, [(.d (.i .i64 3)), (.d (.i .i64 b3_1)), (.d (.s (bs [])))]), (3, [(.d (.i .i64 3)), (.d (.i .i64 b3_1)), (.d (.s (bs [])))])]⟩) (by kernel_rfl) ?_
  refine nil_in ?_
  refine next_in ?_
  refine ret_in ?_
  have h := Option.some.inj h; subst h
  exact ret1_step (v := (vGValue (GValue.mk 3 b3_1 []))) (by kernel_rfl) (by kernel_rfl) (by kernel_rfl)
theorem OK_iBoolValue (p0 : Bool) : FOk Try.prog 74 [(.d (.b p0))] (fun y => (vGValue y)) (iBoolValue p0) := by
  intro r h
  rw [iBoolValue] at h
  refine acalls_of_fn triBoolValue (Nat.le_of_ble_eq_true rfl) (by simp) ?_
  show avc Try.prog aciBoolValue (qiBoolValue _) ⟨[(0, (.d (.b p0)))], []⟩
  delta aciBoolValue
  refine seq_in ?_
  refine ops_in ?_
  refine sts_ok 1 (s' := ⟨[(2, (.ptr 2 0)), (0, (.d (.b p0)))], [(2, [(.d (.i .i64 0)), (.d (.i .i64 0)), (.d (.s (bs [])))])]⟩) (by kernel_rfl) ?_
  refine nil_in ?_
  refine next_in ?_
  refine seq_in ?_
  refine ops_in ?_
  refine sts_ok 3 (s' := ⟨[(3, (.ptr 3 0)), (4, (vGValue (GValue.mk 3 0 []))), (2, (.ptr 2 0)), (0, (.d (.b p0)))], [(3, [(.d (.i .i64 3)), (.d (.i .i64 0)), (.d (.s (bs [])))]), (2, [(.d (.i .i64 0)), (.d (.i .i64 0)), (.d (.s (bs [])))])]⟩) (by kernel_rfl) ?_
  refine nil_in ?_
  refine next_in ?_
  refine seq_in ?_
  refine seq_in ?_
  refine ops_in ?_
  refine sts_ok 1 (s' := ⟨[(5, (.d (.b p0))), (3, (.ptr 3 0)), (4, (vGValue (GValue.mk 3 0 []))), (2, (.ptr 2 0)), (0, (.d (.b p0)))], [(3, [(.d (.i .i64 3)), (.d (.i .i64 0)), (.d (.s (bs [])))]), (2, [(.d (.i .i64 0)), (.d (.i .i64 0)), (.d (.s (bs [])))])]⟩) (by kernel_rfl) ?_
  refine nil_in ?_
  refine next_in ?_
  refine cond_step h (by kernel_rfl) ?_ ?_
  · clear h; intro h
    refine ops_in ?_
    refine sts_ok 2 (s' := ⟨[(6, (.ptr 3 1)), (5, (.d (.b p0))), (3, (.ptr 3 0)), (4, (vGValue (GValue.mk 3 0 []))), (2, (.ptr 2 0)), (0, (.d (.b p0)))], [(3, [(.d (.i .i64 3)), (.d (.i .i64 1)), (.d (.s (bs [])))]), (2, [(.d (.i .i64 0)), (.d (.i .i64 0)), (.d (.s (bs [])))])]⟩) (by kernel_rfl) ?_
    refine nil_in ?_
    exact next_step (s' := stiBoolValue_J0 1) (wk_ren [] (by kernel_rfl) (er_cons (vr_same (by kernel_rfl) (by kernel_rfl)) (er_cons (vr_same (by kernel_rfl) (by kernel_rfl)) (er_nil))) (br_same (by kernel_rfl) (by kernel_rfl) (br_same (by kernel_rfl) (by kernel_rfl) (br_nil)))) (OK_iBoolValue_J0 1 _ h)
  · clear h; intro h
    refine skip_in ?_
    exact next_step (s' := stiBoolValue_J0 0) (wk_ren [] (by kernel_rfl) (er_cons (vr_same (by kernel_rfl) (by kernel_rfl)) (er_cons (vr_same (by kernel_rfl) (by kernel_rfl)) (er_nil))) (br_same (by kernel_rfl) (by kernel_rfl) (br_same (by kernel_rfl) (by kernel_rfl) (br_nil)))) (OK_iBoolValue_J0 0 _ h)
theorem OK_iAddNum (p0 : Int) (p1 : Int) : FOk Try.prog 187 [(.d (.i .i64 p0)), (.d (.i .i64 p1))] (fun y => (.tup [(.d (.i .i64 y.1)), (.d (.b y.2))])) (iAddNum p0 p1) := by
  intro r h
  rw [iAddNum] at h
  refine acalls_of_fn triAddNum (Nat.le_of_ble_eq_true rfl) (by simp) ?_
  show avc Try.prog aciAddNum (qiAddNum _) ⟨[(0, (.d (.i .i64 p0))), (1, (.d (.i .i64 p1)))], []⟩
  delta aciAddNum
  refine seq_in ?_
  refine ops_in ?_
  refine sts_ok 2 (s' := ⟨[(5, (.d (.b false))), (4, (.d (.i .i64 0))), (0, (.d (.i .i64 p0))), (1, (.d (.i .i64 p1)))], []⟩) (by kernel_rfl) ?_
  refine nil_in ?_
  refine next_in ?_
  refine seq_in ?_
  refine seq_in ?_
  refine ops_in ?_
  refine sts_ok 3 (s' := ⟨[(8, (.d (.b (decide (0 < p1))))), (7, (.d (.b (decide (0 < p1))))), (6, (.d (.i .i64 p1))), (5, (.d (.b false))), (4, (.d (.i .i64 0))), (0, (.d (.i .i64 p0))), (1, (.d (.i .i64 p1)))], []⟩) (by kernel_rfl) ?_
  refine gp_step (p := true) (b := (decide (0 < p1))) (v' := (.d (.i .i64 p0))) (by kernel_rfl) rfl rfl (fun hc => vop_val1 (by kernel_rfl) (by kernel_rfl)) ?_
  refine gp_step (p := true) (b := (decide (0 < p1))) (v' := (.d (.i .i64 p1))) (by kernel_rfl) rfl rfl (fun hc => vop_val1 (by kernel_rfl) (by kernel_rfl)) ?_
  refine gp_step (p := true) (b := (decide (0 < p1))) (v' := (.d (.i .i64 (IntKind.wrap .i64 (9223372036854775807 - p1))))) (by kernel_rfl) rfl rfl (fun hc => vop_val1 (Eq.trans (b := ([(true && ((decide (0 < p1)) == true))] : List Bool).all id) (by kernel_rfl) (all_c hc rfl)) (by kernel_rfl)) ?_
  refine gp_step (p := true) (b := (decide (0 < p1))) (v' := (.d (.b (decide ((IntKind.wrap .i64 (9223372036854775807 - p1)) < p0))))) (by kernel_rfl) rfl rfl (fun hc => vop_val1 (Eq.trans (b := ([(true && ((decide (0 < p1)) == true)), (true && ((decide (0 < p1)) == true))] : List Bool).all id) (by kernel_rfl) (all_c hc (all_c hc rfl))) (by kernel_rfl)) ?_
  refine p_step (v' := (.d (.b (if (decide (0 < p1)) = true then (decide ((IntKind.wrap .i64 (9223372036854775807 - p1)) < p0)) else false)))) rfl rfl (vop_pick (b := (decide (0 < p1))) (p := (true && ((decide (0 < p1)) == true))) (u := (decide ((IntKind.wrap .i64 (9223372036854775807 - p1)) < p0))) (q := true) (v := false) (by kernel_rfl) (by kernel_rfl) (by kernel_rfl) (by kernel_rfl) (fun hb => gc_t rfl hb) (fun _ => rfl)) ?_
  refine sts_ok 1 (s' := ⟨[(14, (.d (.b (if (decide (0 < p1)) = true then (decide ((IntKind.wrap .i64 (9223372036854775807 - p1)) < p0)) else false)))), (13, (.d (.b (if (decide (0 < p1)) = true then (decide ((IntKind.wrap .i64 (9223372036854775807 - p1)) < p0)) else false)))), (12, (.ite (true && ((decide (0 < p1)) == true)) (.d (.b (decide ((IntKind.wrap .i64 (9223372036854775807 - p1)) < p0)))))), (11, (.ite (true && ((decide (0 < p1)) == true)) (.d (.i .i64 (IntKind.wrap .i64 (9223372036854775807 - p1)))))), (10, (.ite (true && ((decide (0 < p1)) == true)) (.d (.i .i64 p1)))), (9, (.ite (true && ((decide (0 < p1)) == true)) (.d (.i .i64 p0)))), (8, (.d (.b (decide (0 < p1))))), (7, (.d (.b (decide (0 < p1))))), (6, (.d (.i .i64 p1))), (5, (.d (.b false))), (4, (.d (.i .i64 0))), (0, (.d (.i .i64 p0))), (1, (.d (.i .i64 p1)))], []⟩) (by kernel_rfl) ?_
  refine gp_step (p := true) (b := (if (decide (0 < p1)) = true then (decide ((IntKind.wrap .i64 (9223372036854775807 - p1)) < p0)) else false)) (v' := (.d (.i .i64 p1))) (by kernel_rfl) rfl rfl (fun hc => vop_val1 (by kernel_rfl) (by kernel_rfl)) ?_
  refine gp_step (p := true) (b := (if (decide (0 < p1)) = true then (decide ((IntKind.wrap .i64 (9223372036854775807 - p1)) < p0)) else false)) (v' := (.d (.b (decide (p1 < 0))))) (by kernel_rfl) rfl rfl (fun hc => vop_val1 (Eq.trans (b := ([(true && ((if (decide (0 < p1)) = true then (decide ((IntKind.wrap .i64 (9223372036854775807 - p1)) < p0)) else false) == false))] : List Bool).all id) (by kernel_rfl) (all_c hc rfl)) (by kernel_rfl)) ?_
  refine gp_step (p := true) (b := (if (decide (0 < p1)) = true then (decide ((IntKind.wrap .i64 (9223372036854775807 - p1)) < p0)) else false)) (v' := (.d (.b (decide (p1 < 0))))) (by kernel_rfl) rfl rfl (fun hc => vop_val1 (Eq.trans (b := ([(true && ((if (decide (0 < p1)) = true then (decide ((IntKind.wrap .i64 (9223372036854775807 - p1)) < p0)) else false) == false))] : List Bool).all id) (by kernel_rfl) (all_c hc rfl)) (by kernel_rfl)) ?_
  refine gp_step (p := (true && ((if (decide (0 < p1)) = true then (decide ((IntKind.wrap .i64 (9223372036854775807 - p1)) < p0)) else false) == false))) (b := (decide (p1 < 0))) (v' := (.d (.i .i64 p0))) (by kernel_rfl) rfl rfl (fun hc => vop_val1 (by kernel_rfl) (by kernel_rfl)) ?_
  refine gp_step (p := (true && ((if (decide (0 < p1)) = true then (decide ((IntKind.wrap .i64 (9223372036854775807 - p1)) < p0)) else false) == false))) (b := (decide (p1 < 0))) (v' := (.d (.i .i64 p1))) (by kernel_rfl) rfl rfl (fun hc => vop_val1 (by kernel_rfl) (by kernel_rfl)) ?_
  refine gp_step (p := (true && ((if (decide (0 < p1)) = true then (decide ((IntKind.wrap .i64 (9223372036854775807 - p1)) < p0)) else false) == false))) (b := (decide (p1 < 0))) (v' := (.d (.i .i64 (IntKind.wrap .i64 ((-9223372036854775808) - p1))))) (by kernel_rfl) rfl rfl (fun hc => vop_val1 (Eq.trans (b := ([((true && ((if (decide (0 < p1)) = true then (decide ((IntKind.wrap .i64 (9223372036854775807 - p1)) < p0)) else false) == false)) && ((decide (p1 < 0)) == true))] : List Bool).all id) (by kernel_rfl) (all_c hc rfl)) (by kernel_rfl)) ?_
  refine gp_step (p := (true && ((if (decide (0 < p1)) = true then (decide ((IntKind.wrap .i64 (9223372036854775807 - p1)) < p0)) else false) == false))) (b := (decide (p1 < 0))) (v' := (.d (.b (decide (p0 < (IntKind.wrap .i64 ((-9223372036854775808) - p1))))))) (by kernel_rfl) rfl rfl (fun hc => vop_val1 (Eq.trans (b := ([((true && ((if (decide (0 < p1)) = true then (decide ((IntKind.wrap .i64 (9223372036854775807 - p1)) < p0)) else false) == false)) && ((decide (p1 < 0)) == true)), ((true && ((if (decide (0 < p1)) = true then (decide ((IntKind.wrap .i64 (9223372036854775807 - p1)) < p0)) else false) == false)) && ((decide (p1 < 0)) == true))] : List Bool).all id) (by kernel_rfl) (all_c hc (all_c hc rfl))) (by kernel_rfl)) ?_
  refine gp_step (p := true) (b := (if (decide (0 < p1)) = true then (decide ((IntKind.wrap .i64 (9223372036854775807 - p1)) < p0)) else false)) (v' := (.d (.b (if (decide (p1 < 0)) = true then (decide (p0 < (IntKind.wrap .i64 ((-9223372036854775808) - p1)))) else false)))) (by kernel_rfl) rfl rfl (fun hc => vop_pick (b := (decide (p1 < 0))) (p := ((true && ((if (decide (0 < p1)) = true then (decide ((IntKind.wrap .i64 (9223372036854775807 - p1)) < p0)) else false) == false)) && ((decide (p1 < 0)) == true))) (u := (decide (p0 < (IntKind.wrap .i64 ((-9223372036854775808) - p1))))) (q := true) (v := false) (Eq.trans (b := ([(true && ((if (decide (0 < p1)) = true then (decide ((IntKind.wrap .i64 (9223372036854775807 - p1)) < p0)) else false) == false))] : List Bool).all id) (by kernel_rfl) (all_c hc rfl)) (by kernel_rfl) (by kernel_rfl) (by kernel_rfl) (fun hb => gc_t hc hb) (fun _ => rfl)) ?_
  refine p_step (v' := (.d (.b (if (if (decide (0 < p1)) = true then (decide ((IntKind.wrap .i64 (9223372036854775807 - p1)) < p0)) else false) = true then true else (if (decide (p1 < 0)) = true then (decide (p0 < (IntKind.wrap .i64 ((-9223372036854775808) - p1)))) else false))))) rfl rfl (vop_pick (b := (if (decide (0 < p1)) = true then (decide ((IntKind.wrap .i64 (9223372036854775807 - p1)) < p0)) else false)) (p := true) (u := true) (q := (true && ((if (decide (0 < p1)) = true then (decide ((IntKind.wrap .i64 (9223372036854775807 - p1)) < p0)) else false) == false))) (v := (if (decide (p1 < 0)) = true then (decide (p0 < (IntKind.wrap .i64 ((-9223372036854775808) - p1)))) else false)) (by kernel_rfl) (by kernel_rfl) (by kernel_rfl) (by kernel_rfl) (fun _ => rfl) (fun hb => gc_f rfl hb)) ?_
  refine nil_in ?_
  refine next_in ?_
  refine cond_step h (by kernel_rfl) ?_ ?_
  · clear h; intro h
    refine seq_in ?_
    refine ops_in ?_
    refine sts_ok 2 (s' := ⟨[(5, (.d (.b false))), (4, (.d (.i .i64 0))), (23, (.d (.b (if (if (decide (0 < p1)) = true then (decide ((IntKind.wrap .i64 (9223372036854775807 - p1)) < p0)) else false) = true then true else (if (decide (p1 < 0)) = true then (decide (p0 < (IntKind.wrap .i64 ((-9223372036854775808) - p1)))) else false))))), (22, (.ite (true && ((if (decide (0 < p1)) = true then (decide ((IntKind.wrap .i64 (9223372036854775807 - p1)) < p0)) else false) == false)) (.d (.b (if (decide (p1 < 0)) = true then (decide (p0 < (IntKind.wrap .i64 ((-9223372036854775808) - p1)))) else false))))), (21, (.ite ((true && ((if (decide (0 < p1)) = true then (decide ((IntKind.wrap .i64 (9223372036854775807 - p1)) < p0)) else false) == false)) && ((decide (p1 < 0)) == true)) (.d (.b (decide (p0 < (IntKind.wrap .i64 ((-9223372036854775808) - p1)))))))), (20, (.ite ((true && ((if (decide (0 < p1)) = true then (decide ((IntKind.wrap .i64 (9223372036854775807 - p1)) < p0)) else false) == false)) && ((decide (p1 < 0)) == true)) (.d (.i .i64 (IntKind.wrap .i64 ((-9223372036854775808) - p1)))))), (19, (.ite ((true && ((if (decide (0 < p1)) = true then (decide ((IntKind.wrap .i64 (9223372036854775807 - p1)) < p0)) else false) == false)) && ((decide (p1 < 0)) == true)) (.d (.i .i64 p1)))), (18, (.ite ((true && ((if (decide (0 < p1)) = true then (decide ((IntKind.wrap .i64 (9223372036854775807 - p1)) < p0)) else false) == false)) && ((decide (p1 < 0)) == true)) (.d (.i .i64 p0)))), (17, (.ite (true && ((if (decide (0 < p1)) = true then (decide ((IntKind.wrap .i64 (9223372036854775807 - p1)) < p0)) else false) == false)) (.d (.b (decide (p1 < 0)))))), (16, (.ite (true && ((if (decide (0 < p1)) = true then (decide ((IntKind.wrap .i64 (9223372036854775807 - p1)) < p0)) else false) == false)) (.d (.b (decide (p1 < 0)))))), (15, (.ite (true && ((if (decide (0 < p1)) = true then (decide ((IntKind.wrap .i64 (9223372036854775807 - p1)) < p0)) else false) == false)) (.d (.i .i64 p1)))), (14, (.d (.b (if (decide (0 < p1)) = true then (decide ((IntKind.wrap .i64 (9223372036854775807 - p1)) < p0)) else false)))), (13, (.d (.b (if (decide (0 < p1)) = true then (decide ((IntKind.wrap .i64 (9223372036854775807 - p1)) < p0)) else false)))), (12, (.ite (true && ((decide (0 < p1)) == true)) (.d (.b (decide ((IntKind.wrap .i64 (9223372036854775807 - p1)) < p0)))))), (11, (.ite (true && ((decide (0 < p1)) == true)) (.d (.i .i64 (IntKind.wrap .i64 (9223372036854775807 - p1)))))), (10, (.ite (true && ((decide (0 < p1)) == true)) (.d (.i .i64 p1)))), (9, (.ite (true && ((decide (0 < p1)) == true)) (.d (.i .i64 p0)))), (8, (.d (.b (decide (0 < p1))))), (7, (.d (.b (decide (0 < p1))))), (6, (.d (.i .i64 p1))), (5, (.d (.b false))), (4, (.d (.i .i64 0))), (0, (.d (.i .i64 p0))), (1, (.d (.i .i64 p1)))], []⟩) (by kernel_rfl) ?_
    refine nil_in ?_
    refine next_in ?_
    refine ret_in ?_
    refine thenK_ret ?_
    have h := Option.some.inj h; subst h
    exact retn_step (vs := [(.d (.i .i64 0)), (.d (.b false))]) (by kernel_rfl) (by kernel_rfl)
  · clear h; intro h
    refine skip_in ?_
    refine next_in ?_
    refine seq_in ?_
    refine ops_in ?_
    refine sts_ok 5 (s' := ⟨[(5, (.d (.b true))), (4, (.d (.i .i64 (IntKind.wrap .i64 (p0 + p1))))), (26, (.d (.i .i64 (IntKind.wrap .i64 (p0 + p1))))), (25, (.d (.i .i64 p1))), (24, (.d (.i .i64 p0))), (23, (.d (.b (if (if (decide (0 < p1)) = true then (decide ((IntKind.wrap .i64 (9223372036854775807 - p1)) < p0)) else false) = true then true else (if (decide (p1 < 0)) = true then (decide (p0 < (IntKind.wrap .i64 ((-9223372036854775808) - p1)))) else false))))), (22, (.ite (true && ((if (decide (0 < p1)) = true then (decide ((IntKind.wrap .i64 (9223372036854775807 - p1)) < p0)) else false) == false)) (.d (.b (if (decide (p1 < 0)) = true then (decide (p0 < (IntKind.wrap .i64 ((-9223372036854775808) - p1)))) else false))))), (21, (.ite ((true && ((if (decide (0 < p1)) = true then (decide ((IntKind.wrap .i64 (9223372036854775807 - p1)) < p0)) else false) == false)) && ((decide (p1 < 0)) == true)) (.d (.b (decide (p0 < (IntKind.wrap .i64 ((-9223372036854775808) - p1)))))))), (20, (.ite ((true && ((if (decide (0 < p1)) = true then (decide ((IntKind.wrap .i64 (9223372036854775807 - p1)) < p0)) else false) == false)) && ((decide (p1 < 0)) == true)) (.d (.i .i64 (IntKind.wrap .i64 ((-9223372036854775808) - p1)))))), (19, (.ite ((true && ((if (decide (0 < p1)) = true then (decide ((IntKind.wrap .i64 (9223372036854775807 - p1)) < p0)) else false) == false)) && ((decide (p1 < 0)) == true)) (.d (.i .i64 p1)))), (18, (.ite ((true && ((if (decide (0 < p1)) = true then (decide ((IntKind.wrap .i64 (9223372036854775807 - p1)) < p0)) else false) == false)) && ((decide (p1 < 0)) == true)) (.d (.i .i64 p0)))), (17, (.ite (true && ((if (decide (0 < p1)) = true then (decide ((IntKind.wrap .i64 (9223372036854775807 - p1)) < p0)) else false) == false)) (.d (.b (decide (p1 < 0)))))), (16, (.ite (true && ((if (decide (0 < p1)) = true then (decide ((IntKind.wrap .i64 (9223372036854775807 - p1)) < p0)) else false) == false)) (.d (.b (decide (p1 < 0)))))), (15, (.ite (true && ((if (decide (0 < p1)) = true then (decide ((IntKind.wrap .i64 (9223372036854775807 - p1)) < p0)) else false) == false)) (.d (.i .i64 p1)))), (14, (.d (.b (if (decide (0 < p1)) = true then (decide ((IntKind.wrap .i64 (9223372036854775807 - p1)) < p0)) else false)))), (13, (.d (.b (if (decide (0 < p1)) = true then (decide ((IntKind.wrap .i64 (9223372036854775807 - p1)) < p0)) else false)))), (12, (.ite (true && ((decide (0 < p1)) == true)) (.d (.b (decide ((IntKind.wrap .i64 (9223372036854775807 - p1)) < p0)))))), (11, (.ite (true && ((decide (0 < p1)) == true)) (.d (.i .i64 (IntKind.wrap .i64 (9223372036854775807 - p1)))))), (10, (.ite (true && ((decide (0 < p1)) == true)) (.d (.i .i64 p1)))), (9, (.ite (true && ((decide (0 < p1)) == true)) (.d (.i .i64 p0)))), (8, (.d (.b (decide (0 < p1))))), (7, (.d (.b (decide (0 < p1))))), (6, (.d (.i .i64 p1))), (5, (.d (.b false))), (4, (.d (.i .i64 0))), (0, (.d (.i .i64 p0))), (1, (.d (.i .i64 p1)))], []⟩) (by kernel_rfl) ?_
    refine nil_in ?_
    refine next_in ?_
    refine ret_in ?_
    have h := Option.some.inj h; subst h
    exact retn_step (vs := [(.d (.i .i64 (IntKind.wrap .i64 (p0 + p1)))), (.d (.b true))]) (by kernel_rfl) (by kernel_rfl)
theorem OK_iIntValue (p0 : Int) : FOk Try.prog 191 [(.d (.i .i64 p0))] (fun y => (vGValue y)) (iIntValue p0) := by
  intro r h
  rw [iIntValue] at h
  refine acalls_of_fn triIntValue (Nat.le_of_ble_eq_true rfl) (by simp) ?_
  show avc Try.prog aciIntValue (qiIntValue _) ⟨[(0, (.d (.i .i64 p0)))], []⟩
  delta aciIntValue
  refine seq_in ?_
  refine ops_in ?_
  refine sts_ok 1 (s' := ⟨[(2, (.ptr 2 0)), (0, (.d (.i .i64 p0)))], [(2, [(.d (.i .i64 0)), (.d (.i .i64 0)), (.d (.s (bs [])))])]⟩) (by kernel_rfl) ?_
  refine nil_in ?_
  refine next_in ?_
  refine seq_in ?_
  refine ops_in ?_
  refine sts_ok 3 (s' := ⟨[(4, (vGValue (GValue.mk 1 p0 []))), (3, (.d (.i .i64 p0))), (2, (.ptr 2 0)), (0, (.d (.i .i64 p0)))], [(2, [(.d (.i .i64 1)), (.d (.i .i64 p0)), (.d (.s (bs [])))])]⟩) (by kernel_rfl) ?_
  refine nil_in ?_
  refine next_in ?_
  refine ret_in ?_
  have h := Option.some.inj h; subst h
  exact ret1_step (v := (vGValue (GValue.mk 1 p0 []))) (by kernel_rfl) (by kernel_rfl) (by kernel_rfl)
theorem OK_iArithmetic_J0 (x8 : Int) (x9 : Bool) (r : GValue × Int) (h : iArithmetic_J0 x8 x9 = some r) : avc Try.prog aciArithmetic_J0 (qiArithmetic r) (stiArithmetic_J0 x8 x9) := by
  rw [iArithmetic_J0] at h
  delta aciArithmetic_J0
  refine seq_in ?_
  refine seq_in ?_
  refine ops_in ?_
  refine sts_ok 2 (s' := ⟨(42, (.d (.b (!x9)))) :: (41, (.d (.b x9))) :: (stiArithmetic_J0 x8 x9).env, (stiArithmetic_J0 x8 x9).bx⟩) (by kernel_rfl) ?_
  refine nil_in ?_
  refine next_in ?_
  refine cond_step h (by kernel_rfl) ?_ ?_
  · clear h; intro h
    refine seq_in ?_
    refine ops_in ?_
    refine sts_ok 3 (s' := ⟨(7, (.d (.i .i64 2))) :: (43, (vGValue (GValue.mk 0 0 []))) :: (42, (.d (.b (!x9)))) :: (41, (.d (.b x9))) :: (stiArithmetic_J0 x8 x9).env, [(6, [(.d (.i .i64 0)), (.d (.i .i64 0)), (.d (.s (bs [])))])]⟩) (by kernel_rfl) ?_
    refine nil_in ?_
    refine next_in ?_
    refine ret_in ?_
    refine thenK_ret ?_
    have h := Option.some.inj h; subst h
    exact retn_step (vs := [(vGValue (GValue.mk 0 0 [])), (.d (.i .i64 2))]) (by kernel_rfl) (by kernel_rfl)
  · clear h; intro h
    refine skip_in ?_
    refine next_in ?_
    refine seq_in ?_
    refine ops_in ?_
    refine sts_ok 1 (s' := ⟨(44, (.d (.i .i64 x8))) :: (42, (.d (.b (!x9)))) :: (41, (.d (.b x9))) :: (stiArithmetic_J0 x8 x9).env, (stiArithmetic_J0 x8 x9).bx⟩) (by kernel_rfl) ?_
    refine call_step (m := iIntValue x8) (args := [(.d (.i .i64 x8))]) (v' := (fun y => (vGValue y))) h (OK_iIntValue x8) (by kernel_rfl) (by kernel_rfl) (fun _ => rfl) ?_
    clear h; intro y5 h
    refine sts_ok 2 (s' := ⟨(7, (.d (.i .i64 0))) :: (45, (vGValue y5)) :: (44, (.d (.i .i64 x8))) :: (42, (.d (.b (!x9)))) :: (41, (.d (.b x9))) :: (stiArithmetic_J0 x8 x9).env, [(6, [(.d (.i .i64 y5.kind)), (.d (.i .i64 y5.num)), (.d (.s (bs y5.text)))])]⟩) (by kernel_rfl) ?_
    refine nil_in ?_
    refine next_in ?_
    refine ret_in ?_
    have h := Option.some.inj h; subst h
    exact retn_step (vs := [(vGValue y5), (.d (.i .i64 0))]) (by kernel_rfl) (by kernel_rfl)
theorem OK_iDivided (p0 : Int) (p1 : Int) (p2 : Int) : FOk Try.prog 190 [(.d (.i .i64 p0)), (.d (.i .i64 p1)), (.d (.i .i64 p2))] (fun y => (.tup [(vGValue y.1), (.d (.i .i64 y.2))])) (iDivided p0 p1 p2) := by
  intro r h
  rw [iDivided] at h
  refine acalls_of_fn triDivided (Nat.le_of_ble_eq_true rfl) (by simp) ?_
  show avc Try.prog aciDivided (qiDivided _) ⟨[(0, (.d (.i .i64 p0))), (1, (.d (.i .i64 p1))), (2, (.d (.i .i64 p2)))], []⟩
  delta aciDivided
  refine seq_in ?_
  refine ops_in ?_
  refine sts_ok 2 (s' := ⟨[(7, (.d (.i .i64 0))), (6, (.ptr 6 0)), (0, (.d (.i .i64 p0))), (1, (.d (.i .i64 p1))), (2, (.d (.i .i64 p2)))], [(6, [(.d (.i .i64 0)), (.d (.i .i64 0)), (.d (.s (bs [])))])]⟩) (by kernel_rfl) ?_
  refine nil_in ?_
  refine next_in ?_
  refine seq_in ?_
  refine block_in ?_
  refine seq_in ?_
  refine ops_in ?_
  refine sts_ok 3 (s' := ⟨[(8, (.d (.b (decide (p2 = 0))))), (10, (.d (.b (decide (p2 = 0))))), (9, (.d (.i .i64 p2))), (7, (.d (.i .i64 0))), (6, (.ptr 6 0)), (0, (.d (.i .i64 p0))), (1, (.d (.i .i64 p1))), (2, (.d (.i .i64 p2)))], [(6, [(.d (.i .i64 0)), (.d (.i .i64 0)), (.d (.s (bs [])))])]⟩) (by kernel_rfl) ?_
  refine nil_in ?_
  refine next_in ?_
  refine cond_step h (by kernel_rfl) ?_ ?_
  · clear h; intro h
    refine seq_in ?_
    refine ops_in ?_
    refine sts_ok 3 (s' := ⟨[(7, (.d (.i .i64 3))), (11, (vGValue (GValue.mk 0 0 []))), (8, (.d (.b (decide (p2 = 0))))), (10, (.d (.b (decide (p2 = 0))))), (9, (.d (.i .i64 p2))), (7, (.d (.i .i64 0))), (6, (.ptr 6 0)), (0, (.d (.i .i64 p0))), (1, (.d (.i .i64 p1))), (2, (.d (.i .i64 p2)))], [(6, [(.d (.i .i64 0)), (.d (.i .i64 0)), (.d (.s (bs [])))])]⟩) (by kernel_rfl) ?_
    refine nil_in ?_
    refine next_in ?_
    refine ret_in ?_
    refine blockK_ret ?_
    refine thenK_ret ?_
    have h := Option.some.inj h; subst h
    exact retn_step (vs := [(vGValue (GValue.mk 0 0 [])), (.d (.i .i64 3))]) (by kernel_rfl) (by kernel_rfl)
  · clear h; intro h
    refine seq_in ?_
    refine ops_in ?_
    refine sts_ok 3 (s' := ⟨[(12, (.d (.b (decide (p0 = 14))))), (14, (.d (.b (decide (p0 = 14))))), (13, (.d (.i .i64 p0))), (8, (.d (.b (decide (p2 = 0))))), (10, (.d (.b (decide (p2 = 0))))), (9, (.d (.i .i64 p2))), (7, (.d (.i .i64 0))), (6, (.ptr 6 0)), (0, (.d (.i .i64 p0))), (1, (.d (.i .i64 p1))), (2, (.d (.i .i64 p2)))], [(6, [(.d (.i .i64 0)), (.d (.i .i64 0)), (.d (.s (bs [])))])]⟩) (by kernel_rfl) ?_
    refine nil_in ?_
    refine next_in ?_
    refine cond_step h (by kernel_rfl) ?_ ?_
    · clear h; intro h
      refine seq_in ?_
      refine ops_in ?_
      refine sts_ok 2 (s' := ⟨[(16, (.d (.i .i64 p2))), (15, (.d (.i .i64 p1))), (12, (.d (.b (decide (p0 = 14))))), (14, (.d (.b (decide (p0 = 14))))), (13, (.d (.i .i64 p0))), (8, (.d (.b (decide (p2 = 0))))), (10, (.d (.b (decide (p2 = 0))))), (9, (.d (.i .i64 p2))), (7, (.d (.i .i64 0))), (6, (.ptr 6 0)), (0, (.d (.i .i64 p0))), (1, (.d (.i .i64 p1))), (2, (.d (.i .i64 p2)))], [(6, [(.d (.i .i64 0)), (.d (.i .i64 0)), (.d (.s (bs [])))])]⟩) (by kernel_rfl) ?_
      refine v_step (m := remG p1 p2) (v' := fun y => (.d (.i .i64 y))) h rfl rfl (fun y hy => vop_rem (k := .i64) (a := p1) (b := p2) hy (by kernel_rfl) (by kernel_rfl) (by kernel_rfl)) ?_
      clear h; intro y1 h
      refine call_step (m := iIntValue y1) (args := [(.d (.i .i64 y1))]) (v' := (fun y => (vGValue y))) h (OK_iIntValue y1) (by kernel_rfl) (by kernel_rfl) (fun _ => rfl) ?_
      clear h; intro y2 h
      refine sts_ok 2 (s' := ⟨[(7, (.d (.i .i64 0))), (18, (vGValue y2)), (17, (.d (.i .i64 y1))), (16, (.d (.i .i64 p2))), (15, (.d (.i .i64 p1))), (12, (.d (.b (decide (p0 = 14))))), (14, (.d (.b (decide (p0 = 14))))), (13, (.d (.i .i64 p0))), (8, (.d (.b (decide (p2 = 0))))), (10, (.d (.b (decide (p2 = 0))))), (9, (.d (.i .i64 p2))), (7, (.d (.i .i64 0))), (6, (.ptr 6 0)), (0, (.d (.i .i64 p0))), (1, (.d (.i .i64 p1))), (2, (.d (.i .i64 p2)))], [(6, [(.d (.i .i64 y2.kind)), (.d (.i .i64 y2.num)), (.d (.s (bs y2.text)))])]⟩) (by kernel_rfl) ?_
      refine nil_in ?_
      refine next_in ?_
      refine ret_in ?_
      refine blockK_ret ?_
      refine thenK_ret ?_
      have h := Option.some.inj h; subst h
      exact retn_step (vs := [(vGValue y2), (.d (.i .i64 0))]) (by kernel_rfl) (by kernel_rfl)
    · clear h; intro h
      refine seq_in ?_
      refine ops_in ?_
      refine sts_ok 3 (s' := ⟨[(22, (.d (.b (decide (p1 = (-9223372036854775808)))))), (21, (.d (.b (decide (p1 = (-9223372036854775808)))))), (20, (.d (.i .i64 p1))), (12, (.d (.b (decide (p0 = 14))))), (14, (.d (.b (decide (p0 = 14))))), (13, (.d (.i .i64 p0))), (8, (.d (.b (decide (p2 = 0))))), (10, (.d (.b (decide (p2 = 0))))), (9, (.d (.i .i64 p2))), (7, (.d (.i .i64 0))), (6, (.ptr 6 0)), (0, (.d (.i .i64 p0))), (1, (.d (.i .i64 p1))), (2, (.d (.i .i64 p2)))], [(6, [(.d (.i .i64 0)), (.d (.i .i64 0)), (.d (.s (bs [])))])]⟩) (by kernel_rfl) ?_
      refine gp_step (p := true) (b := (decide (p1 = (-9223372036854775808)))) (v' := (.d (.i .i64 p2))) (by kernel_rfl) rfl rfl (fun hc => vop_val1 (by kernel_rfl) (by kernel_rfl)) ?_
      refine gp_step (p := true) (b := (decide (p1 = (-9223372036854775808)))) (v' := (.d (.b (decide (p2 = (-1)))))) (by kernel_rfl) rfl rfl (fun hc => vop_val1 (Eq.trans (b := ([(true && ((decide (p1 = (-9223372036854775808))) == true))] : List Bool).all id) (by kernel_rfl) (all_c hc rfl)) (by kernel_rfl)) ?_
      refine p_step (v' := (.d (.b (if (decide (p1 = (-9223372036854775808))) = true then (decide (p2 = (-1))) else false)))) rfl rfl (vop_pick (b := (decide (p1 = (-9223372036854775808)))) (p := (true && ((decide (p1 = (-9223372036854775808))) == true))) (u := (decide (p2 = (-1)))) (q := true) (v := false) (by kernel_rfl) (by kernel_rfl) (by kernel_rfl) (by kernel_rfl) (fun hb => gc_t rfl hb) (fun _ => rfl)) ?_
      refine sts_ok 1 (s' := ⟨[(19, (.d (.b (if (decide (p1 = (-9223372036854775808))) = true then (decide (p2 = (-1))) else false)))), (25, (.d (.b (if (decide (p1 = (-9223372036854775808))) = true then (decide (p2 = (-1))) else false)))), (24, (.ite (true && ((decide (p1 = (-9223372036854775808))) == true)) (.d (.b (decide (p2 = (-1))))))), (23, (.ite (true && ((decide (p1 = (-9223372036854775808))) == true)) (.d (.i .i64 p2)))), (22, (.d (.b (decide (p1 = (-9223372036854775808)))))), (21, (.d (.b (decide (p1 = (-9223372036854775808)))))), (20, (.d (.i .i64 p1))), (12, (.d (.b (decide (p0 = 14))))), (14, (.d (.b (decide (p0 = 14))))), (13, (.d (.i .i64 p0))), (8, (.d (.b (decide (p2 = 0))))), (10, (.d (.b (decide (p2 = 0))))), (9, (.d (.i .i64 p2))), (7, (.d (.i .i64 0))), (6, (.ptr 6 0)), (0, (.d (.i .i64 p0))), (1, (.d (.i .i64 p1))), (2, (.d (.i .i64 p2)))], [(6, [(.d (.i .i64 0)), (.d (.i .i64 0)), (.d (.s (bs [])))])]⟩) (by kernel_rfl) ?_
      refine nil_in ?_
      refine next_in ?_
      refine cond_step h (by kernel_rfl) ?_ ?_
      · clear h; intro h
        refine seq_in ?_
        refine ops_in ?_
        refine sts_ok 3 (s' := ⟨[(7, (.d (.i .i64 2))), (26, (vGValue (GValue.mk 0 0 []))), (19, (.d (.b (if (decide (p1 = (-9223372036854775808))) = true then (decide (p2 = (-1))) else false)))), (25, (.d (.b (if (decide (p1 = (-9223372036854775808))) = true then (decide (p2 = (-1))) else false)))), (24, (.ite (true && ((decide (p1 = (-9223372036854775808))) == true)) (.d (.b (decide (p2 = (-1))))))), (23, (.ite (true && ((decide (p1 = (-9223372036854775808))) == true)) (.d (.i .i64 p2)))), (22, (.d (.b (decide (p1 = (-9223372036854775808)))))), (21, (.d (.b (decide (p1 = (-9223372036854775808)))))), (20, (.d (.i .i64 p1))), (12, (.d (.b (decide (p0 = 14))))), (14, (.d (.b (decide (p0 = 14))))), (13, (.d (.i .i64 p0))), (8, (.d (.b (decide (p2 = 0))))), (10, (.d (.b (decide (p2 = 0))))), (9, (.d (.i .i64 p2))), (7, (.d (.i .i64 0))), (6, (.ptr 6 0)), (0, (.d (.i .i64 p0))), (1, (.d (.i .i64 p1))), (2, (.d (.i .i64 p2)))], [(6, [(.d (.i .i64 0)), (.d (.i .i64 0)), (.d (.s (bs [])))])]⟩) (by kernel_rfl) ?_
        refine nil_in ?_
        refine next_in ?_
        refine ret_in ?_
        refine blockK_ret ?_
        refine thenK_ret ?_
        have h := Option.some.inj h; subst h
        exact retn_step (vs := [(vGValue (GValue.mk 0 0 [])), (.d (.i .i64 2))]) (by kernel_rfl) (by kernel_rfl)
      · clear h; intro h
        refine skip_in ?_
        refine blockK_norm ?_
        refine next_in ?_
        refine seq_in ?_
        refine ops_in ?_
        refine sts_ok 2 (s' := ⟨[(28, (.d (.i .i64 p2))), (27, (.d (.i .i64 p1))), (19, (.d (.b (if (decide (p1 = (-9223372036854775808))) = true then (decide (p2 = (-1))) else false)))), (25, (.d (.b (if (decide (p1 = (-9223372036854775808))) = true then (decide (p2 = (-1))) else false)))), (24, (.ite (true && ((decide (p1 = (-9223372036854775808))) == true)) (.d (.b (decide (p2 = (-1))))))), (23, (.ite (true && ((decide (p1 = (-9223372036854775808))) == true)) (.d (.i .i64 p2)))), (22, (.d (.b (decide (p1 = (-9223372036854775808)))))), (21, (.d (.b (decide (p1 = (-9223372036854775808)))))), (20, (.d (.i .i64 p1))), (12, (.d (.b (decide (p0 = 14))))), (14, (.d (.b (decide (p0 = 14))))), (13, (.d (.i .i64 p0))), (8, (.d (.b (decide (p2 = 0))))), (10, (.d (.b (decide (p2 = 0))))), (9, (.d (.i .i64 p2))), (7, (.d (.i .i64 0))), (6, (.ptr 6 0)), (0, (.d (.i .i64 p0))), (1, (.d (.i .i64 p1))), (2, (.d (.i .i64 p2)))], [(6, [(.d (.i .i64 0)), (.d (.i .i64 0)), (.d (.s (bs [])))])]⟩) (by kernel_rfl) ?_
        refine v_step (m := quoG .i64 p1 p2) (v' := fun y => (.d (.i .i64 y))) h rfl rfl (fun y hy => vop_quo (k := .i64) (a := p1) (b := p2) hy (by kernel_rfl) (by kernel_rfl) (by kernel_rfl)) ?_
        clear h; intro y3 h
        refine call_step (m := iIntValue y3) (args := [(.d (.i .i64 y3))]) (v' := (fun y => (vGValue y))) h (OK_iIntValue y3) (by kernel_rfl) (by kernel_rfl) (fun _ => rfl) ?_
        clear h; intro y4 h
        refine sts_ok 2 (s' := ⟨[(7, (.d (.i .i64 0))), (30, (vGValue y4)), (29, (.d (.i .i64 y3))), (28, (.d (.i .i64 p2))), (27, (.d (.i .i64 p1))), (19, (.d (.b (if (decide (p1 = (-9223372036854775808))) = true then (decide (p2 = (-1))) else false)))), (25, (.d (.b (if (decide (p1 = (-9223372036854775808))) = true then (decide (p2 = (-1))) else false)))), (24, (.ite (true && ((decide (p1 = (-9223372036854775808))) == true)) (.d (.b (decide (p2 = (-1))))))), (23, (.ite (true && ((decide (p1 = (-9223372036854775808))) == true)) (.d (.i .i64 p2)))), (22, (.d (.b (decide (p1 = (-9223372036854775808)))))), (21, (.d (.b (decide (p1 = (-9223372036854775808)))))), (20, (.d (.i .i64 p1))), (12, (.d (.b (decide (p0 = 14))))), (14, (.d (.b (decide (p0 = 14))))), (13, (.d (.i .i64 p0))), (8, (.d (.b (decide (p2 = 0))))), (10, (.d (.b (decide (p2 = 0))))), (9, (.d (.i .i64 p2))), (7, (.d (.i .i64 0))), (6, (.ptr 6 0)), (0, (.d (.i .i64 p0))), (1, (.d (.i .i64 p1))), (2, (.d (.i .i64 p2)))], [(6, [(.d (.i .i64 y4.kind)), (.d (.i .i64 y4.num)), (.d (.s (bs y4.text)))])]⟩) (by kernel_rfl) ?_
        refine nil_in ?_
        refine next_in ?_
        refine ret_in ?_
        have h := Option.some.inj h; subst h
        exact retn_step (vs := [(vGValue y4), (.d (.i .i64 0))]) (by kernel_rfl) (by kernel_rfl)
theorem OK_iMulNum (p0 : Int) (p1 : Int) : FOk Try.prog 189 [(.d (.i .i64 p0)), (.d (.i .i64 p1))] (fun y => (.tup [(.d (.i .i64 y.1)), (.d (.b y.2))])) (iMulNum p0 p1) := by
  intro r h
  rw [iMulNum] at h
  refine acalls_of_fn triMulNum (Nat.le_of_ble_eq_true rfl) (by simp) ?_
  show avc Try.prog aciMulNum (qiMulNum _) ⟨[(0, (.d (.i .i64 p0))), (1, (.d (.i .i64 p1)))], []⟩
  delta aciMulNum
  refine seq_in ?_
  refine ops_in ?_
  refine sts_ok 2 (s' := ⟨[(5, (.d (.b false))), (4, (.d (.i .i64 0))), (0, (.d (.i .i64 p0))), (1, (.d (.i .i64 p1)))], []⟩) (by kernel_rfl) ?_
  refine nil_in ?_
  refine next_in ?_
  refine seq_in ?_
  refine ops_in ?_
  refine sts_ok 4 (s' := ⟨[(6, (.d (.i .i64 (IntKind.wrap .i64 (p0 * p1))))), (9, (.d (.i .i64 (IntKind.wrap .i64 (p0 * p1))))), (8, (.d (.i .i64 p1))), (7, (.d (.i .i64 p0))), (5, (.d (.b false))), (4, (.d (.i .i64 0))), (0, (.d (.i .i64 p0))), (1, (.d (.i .i64 p1)))], []⟩) (by kernel_rfl) ?_
  refine nil_in ?_
  refine next_in ?_
  refine seq_in ?_
  refine seq_in ?_
  refine ops_in ?_
  refine sts_ok 3 (s' := ⟨[(12, (.d (.b (!decide (p0 = 0))))), (11, (.d (.b (!decide (p0 = 0))))), (10, (.d (.i .i64 p0))), (6, (.d (.i .i64 (IntKind.wrap .i64 (p0 * p1))))), (9, (.d (.i .i64 (IntKind.wrap .i64 (p0 * p1))))), (8, (.d (.i .i64 p1))), (7, (.d (.i .i64 p0))), (5, (.d (.b false))), (4, (.d (.i .i64 0))), (0, (.d (.i .i64 p0))), (1, (.d (.i .i64 p1)))], []⟩) (by kernel_rfl) ?_
  refine gp_step (p := true) (b := (!decide (p0 = 0))) (v' := (.d (.i .i64 (IntKind.wrap .i64 (p0 * p1))))) (by kernel_rfl) rfl rfl (fun hc => vop_val1 (by kernel_rfl) (by kernel_rfl)) ?_
  refine gp_step (p := true) (b := (!decide (p0 = 0))) (v' := (.d (.i .i64 p0))) (by kernel_rfl) rfl rfl (fun hc => vop_val1 (by kernel_rfl) (by kernel_rfl)) ?_
  refine gv_step (p := true) (b := (!decide (p0 = 0))) (m := quoG .i64 (IntKind.wrap .i64 (p0 * p1)) p0) (dflt := default) (v' := fun y => (.d (.i .i64 y))) h (by kernel_rfl) rfl rfl (fun y hy hc => vop_quo (k := .i64) (a := (IntKind.wrap .i64 (p0 * p1))) (b := p0) hy (Eq.trans (b := ([(true && ((!decide (p0 = 0)) == true)), (true && ((!decide (p0 = 0)) == true))] : List Bool).all id) (by kernel_rfl) (all_c hc (all_c hc rfl))) (by kernel_rfl) (by kernel_rfl)) ?_
  clear h; intro y1 h
  refine gp_step (p := true) (b := (!decide (p0 = 0))) (v' := (.d (.i .i64 p1))) (by kernel_rfl) rfl rfl (fun hc => vop_val1 (by kernel_rfl) (by kernel_rfl)) ?_
  refine gp_step (p := true) (b := (!decide (p0 = 0))) (v' := (.d (.b (!decide (y1 = p1))))) (by kernel_rfl) rfl rfl (fun hc => vop_val1 (Eq.trans (b := ([(true && ((!decide (p0 = 0)) == true)), (true && ((!decide (p0 = 0)) == true))] : List Bool).all id) (by kernel_rfl) (all_c hc (all_c hc rfl))) (by kernel_rfl)) ?_
  refine gp_step (p := true) (b := (!decide (p0 = 0))) (v' := (.d (.b (!decide (y1 = p1))))) (by kernel_rfl) rfl rfl (fun hc => vop_val1 (Eq.trans (b := ([(true && ((!decide (p0 = 0)) == true))] : List Bool).all id) (by kernel_rfl) (all_c hc rfl)) (by kernel_rfl)) ?_
  refine gp_step (p := (true && ((!decide (p0 = 0)) == true))) (b := (!decide (y1 = p1))) (v' := (.d (.i .i64 p0))) (by kernel_rfl) rfl rfl (fun hc => vop_val1 (by kernel_rfl) (by kernel_rfl)) ?_
  refine gp_step (p := (true && ((!decide (p0 = 0)) == true))) (b := (!decide (y1 = p1))) (v' := (.d (.b (decide (p0 = (-1)))))) (by kernel_rfl) rfl rfl (fun hc => vop_val1 (Eq.trans (b := ([((true && ((!decide (p0 = 0)) == true)) && ((!decide (y1 = p1)) == false))] : List Bool).all id) (by kernel_rfl) (all_c hc rfl)) (by kernel_rfl)) ?_
  refine gp_step (p := (true && ((!decide (p0 = 0)) == true))) (b := (!decide (y1 = p1))) (v' := (.d (.b (decide (p0 = (-1)))))) (by kernel_rfl) rfl rfl (fun hc => vop_val1 (Eq.trans (b := ([((true && ((!decide (p0 = 0)) == true)) && ((!decide (y1 = p1)) == false))] : List Bool).all id) (by kernel_rfl) (all_c hc rfl)) (by kernel_rfl)) ?_
  refine gp_step (p := ((true && ((!decide (p0 = 0)) == true)) && ((!decide (y1 = p1)) == false))) (b := (decide (p0 = (-1)))) (v' := (.d (.i .i64 p1))) (by kernel_rfl) rfl rfl (fun hc => vop_val1 (by kernel_rfl) (by kernel_rfl)) ?_
  refine gp_step (p := ((true && ((!decide (p0 = 0)) == true)) && ((!decide (y1 = p1)) == false))) (b := (decide (p0 = (-1)))) (v' := (.d (.b (decide (p1 = (-9223372036854775808)))))) (by kernel_rfl) rfl rfl (fun hc => vop_val1 (Eq.trans (b := ([(((true && ((!decide (p0 = 0)) == true)) && ((!decide (y1 = p1)) == false)) && ((decide (p0 = (-1))) == true))] : List Bool).all id) (by kernel_rfl) (all_c hc rfl)) (by kernel_rfl)) ?_
  refine gp_step (p := (true && ((!decide (p0 = 0)) == true))) (b := (!decide (y1 = p1))) (v' := (.d (.b (if (decide (p0 = (-1))) = true then (decide (p1 = (-9223372036854775808))) else false)))) (by kernel_rfl) rfl rfl (fun hc => vop_pick (b := (decide (p0 = (-1)))) (p := (((true && ((!decide (p0 = 0)) == true)) && ((!decide (y1 = p1)) == false)) && ((decide (p0 = (-1))) == true))) (u := (decide (p1 = (-9223372036854775808)))) (q := true) (v := false) (Eq.trans (b := ([((true && ((!decide (p0 = 0)) == true)) && ((!decide (y1 = p1)) == false))] : List Bool).all id) (by kernel_rfl) (all_c hc rfl)) (by kernel_rfl) (by kernel_rfl) (by kernel_rfl) (fun hb => gc_t hc hb) (fun _ => rfl)) ?_
  refine gp_step (p := true) (b := (!decide (p0 = 0))) (v' := (.d (.b (if (!decide (y1 = p1)) = true then true else (if (decide (p0 = (-1))) = true then (decide (p1 = (-9223372036854775808))) else false))))) (by kernel_rfl) rfl rfl (fun hc => vop_pick (b := (!decide (y1 = p1))) (p := true) (u := true) (q := ((true && ((!decide (p0 = 0)) == true)) && ((!decide (y1 = p1)) == false))) (v := (if (decide (p0 = (-1))) = true then (decide (p1 = (-9223372036854775808))) else false)) (Eq.trans (b := ([(true && ((!decide (p0 = 0)) == true))] : List Bool).all id) (by kernel_rfl) (all_c hc rfl)) (by kernel_rfl) (by kernel_rfl) (by kernel_rfl) (fun _ => rfl) (fun hb => gc_f hc hb)) ?_
  refine p_step (v' := (.d (.b (if (!decide (p0 = 0)) = true then (if (!decide (y1 = p1)) = true then true else (if (decide (p0 = (-1))) = true then (decide (p1 = (-9223372036854775808))) else false)) else false)))) rfl rfl (vop_pick (b := (!decide (p0 = 0))) (p := (true && ((!decide (p0 = 0)) == true))) (u := (if (!decide (y1 = p1)) = true then true else (if (decide (p0 = (-1))) = true then (decide (p1 = (-9223372036854775808))) else false))) (q := true) (v := false) (by kernel_rfl) (by kernel_rfl) (by kernel_rfl) (by kernel_rfl) (fun hb => gc_t rfl hb) (fun _ => rfl)) ?_
  refine nil_in ?_
  refine next_in ?_
  refine cond_step h (by kernel_rfl) ?_ ?_
  · clear h; intro h
    refine seq_in ?_
    refine ops_in ?_
    refine sts_ok 2 (s' := ⟨[(5, (.d (.b false))), (4, (.d (.i .i64 0))), (26, (.d (.b (if (!decide (p0 = 0)) = true then (if (!decide (y1 = p1)) = true then true else (if (decide (p0 = (-1))) = true then (decide (p1 = (-9223372036854775808))) else false)) else false)))), (25, (.ite (true && ((!decide (p0 = 0)) == true)) (.d (.b (if (!decide (y1 = p1)) = true then true else (if (decide (p0 = (-1))) = true then (decide (p1 = (-9223372036854775808))) else false)))))), (24, (.ite ((true && ((!decide (p0 = 0)) == true)) && ((!decide (y1 = p1)) == false)) (.d (.b (if (decide (p0 = (-1))) = true then (decide (p1 = (-9223372036854775808))) else false))))), (23, (.ite (((true && ((!decide (p0 = 0)) == true)) && ((!decide (y1 = p1)) == false)) && ((decide (p0 = (-1))) == true)) (.d (.b (decide (p1 = (-9223372036854775808))))))), (22, (.ite (((true && ((!decide (p0 = 0)) == true)) && ((!decide (y1 = p1)) == false)) && ((decide (p0 = (-1))) == true)) (.d (.i .i64 p1)))), (21, (.ite ((true && ((!decide (p0 = 0)) == true)) && ((!decide (y1 = p1)) == false)) (.d (.b (decide (p0 = (-1))))))), (20, (.ite ((true && ((!decide (p0 = 0)) == true)) && ((!decide (y1 = p1)) == false)) (.d (.b (decide (p0 = (-1))))))), (19, (.ite ((true && ((!decide (p0 = 0)) == true)) && ((!decide (y1 = p1)) == false)) (.d (.i .i64 p0)))), (18, (.ite (true && ((!decide (p0 = 0)) == true)) (.d (.b (!decide (y1 = p1)))))), (17, (.ite (true && ((!decide (p0 = 0)) == true)) (.d (.b (!decide (y1 = p1)))))), (16, (.ite (true && ((!decide (p0 = 0)) == true)) (.d (.i .i64 p1)))), (15, (.ite (true && ((!decide (p0 = 0)) == true)) (.d (.i .i64 y1)))), (14, (.ite (true && ((!decide (p0 = 0)) == true)) (.d (.i .i64 p0)))), (13, (.ite (true && ((!decide (p0 = 0)) == true)) (.d (.i .i64 (IntKind.wrap .i64 (p0 * p1)))))), (12, (.d (.b (!decide (p0 = 0))))), (11, (.d (.b (!decide (p0 = 0))))), (10, (.d (.i .i64 p0))), (6, (.d (.i .i64 (IntKind.wrap .i64 (p0 * p1))))), (9, (.d (.i .i64 (IntKind.wrap .i64 (p0 * p1))))), (8, (.d (.i .i64 p1))), (7, (.d (.i .i64 p0))), (5, (.d (.b false))), (4, (.d (.i .i64 0))), (0, (.d (.i .i64 p0))), (1, (.d (.i .i64 p1)))], []⟩) (by kernel_rfl) ?_
    refine nil_in ?_
    refine next_in ?_
    refine ret_in ?_
    refine thenK_ret ?_
    have h := Option.some.inj h; subst h
    exact retn_step (vs := [(.d (.i .i64 0)), (.d (.b false))]) (by kernel_rfl) (by kernel_rfl)
  · clear h; intro h
    refine skip_in ?_
    refine next_in ?_
    refine seq_in ?_
    refine ops_in ?_
    refine sts_ok 3 (s' := ⟨[(5, (.d (.b true))), (4, (.d (.i .i64 (IntKind.wrap .i64 (p0 * p1))))), (27, (.d (.i .i64 (IntKind.wrap .i64 (p0 * p1))))), (26, (.d (.b (if (!decide (p0 = 0)) = true then (if (!decide (y1 = p1)) = true then true else (if (decide (p0 = (-1))) = true then (decide (p1 = (-9223372036854775808))) else false)) else false)))), (25, (.ite (true && ((!decide (p0 = 0)) == true)) (.d (.b (if (!decide (y1 = p1)) = true then true else (if (decide (p0 = (-1))) = true then (decide (p1 = (-9223372036854775808))) else false)))))), (24, (.ite ((true && ((!decide (p0 = 0)) == true)) && ((!decide (y1 = p1)) == false)) (.d (.b (if (decide (p0 = (-1))) = true then (decide (p1 = (-9223372036854775808))) else false))))), (23, (.ite (((true && ((!decide (p0 = 0)) == true)) && ((!decide (y1 = p1)) == false)) && ((decide (p0 = (-1))) == true)) (.d (.b (decide (p1 = (-9223372036854775808))))))), (22, (.ite (((true && ((!decide (p0 = 0)) == true)) && ((!decide (y1 = p1)) == false)) && ((decide (p0 = (-1))) == true)) (.d (.i .i64 p1)))), (21, (.ite ((true && ((!decide (p0 = 0)) == true)) && ((!decide (y1 = p1)) == false)) (.d (.b (decide (p0 = (-1))))))), (20, (.ite ((true && ((!decide (p0 = 0)) == true)) && ((!decide (y1 = p1)) == false)) (.d (.b (decide (p0 = (-1))))))), (19, (.ite ((true && ((!decide (p0 = 0)) == true)) && ((!decide (y1 = p1)) == false)) (.d (.i .i64 p0)))), (18, (.ite (true && ((!decide (p0 = 0)) == true)) (.d (.b (!decide (y1 = p1)))))), (17, (.ite (true && ((!decide (p0 = 0)) == true)) (.d (.b (!decide (y1 = p1)))))), (16, (.ite (true && ((!decide (p0 = 0)) == true)) (.d (.i .i64 p1)))), (15, (.ite (true && ((!decide (p0 = 0)) == true)) (.d (.i .i64 y1)))), (14, (.ite (true && ((!decide (p0 = 0)) == true)) (.d (.i .i64 p0)))), (13, (.ite (true && ((!decide (p0 = 0)) == true)) (.d (.i .i64 (IntKind.wrap .i64 (p0 * p1)))))), (12, (.d (.b (!decide (p0 = 0))))), (11, (.d (.b (!decide (p0 = 0))))), (10, (.d (.i .i64 p0))), (6, (.d (.i .i64 (IntKind.wrap .i64 (p0 * p1))))), (9, (.d (.i .i64 (IntKind.wrap .i64 (p0 * p1))))), (8, (.d (.i .i64 p1))), (7, (.d (.i .i64 p0))), (5, (.d (.b false))), (4, (.d (.i .i64 0))), (0, (.d (.i .i64 p0))), (1, (.d (.i .i64 p1)))], []⟩) (by kernel_rfl) ?_
    refine nil_in ?_
    refine next_in ?_
    refine ret_in ?_
    have h := Option.some.inj h; subst h
    exact retn_step (vs := [(.d (.i .i64 (IntKind.wrap .i64 (p0 * p1)))), (.d (.b true))]) (by kernel_rfl) (by kernel_rfl)
theorem OK_iSubNum (p0 : Int) (p1 : Int) : FOk Try.prog 188 [(.d (.i .i64 p0)), (.d (.i .i64 p1))] (fun y => (.tup [(.d (.i .i64 y.1)), (.d (.b y.2))])) (iSubNum p0 p1) := by
  intro r h
  rw [iSubNum] at h
  refine acalls_of_fn triSubNum (Nat.le_of_ble_eq_true rfl) (by simp) ?_
  show avc Try.prog aciSubNum (qiSubNum _) ⟨[(0, (.d (.i .i64 p0))), (1, (.d (.i .i64 p1)))], []⟩
  delta aciSubNum
  refine seq_in ?_
  refine ops_in ?_
  refine sts_ok 2 (s' := ⟨[(5, (.d (.b false))), (4, (.d (.i .i64 0))), (0, (.d (.i .i64 p0))), (1, (.d (.i .i64 p1)))], []⟩) (by kernel_rfl) ?_
  refine nil_in ?_
  refine next_in ?_
  refine seq_in ?_
  refine seq_in ?_
  refine ops_in ?_
  refine sts_ok 3 (s' := ⟨[(8, (.d (.b (decide (p1 < 0))))), (7, (.d (.b (decide (p1 < 0))))), (6, (.d (.i .i64 p1))), (5, (.d (.b false))), (4, (.d (.i .i64 0))), (0, (.d (.i .i64 p0))), (1, (.d (.i .i64 p1)))], []⟩) (by kernel_rfl) ?_
  refine gp_step (p := true) (b := (decide (p1 < 0))) (v' := (.d (.i .i64 p0))) (by kernel_rfl) rfl rfl (fun hc => vop_val1 (by kernel_rfl) (by kernel_rfl)) ?_
  refine gp_step (p := true) (b := (decide (p1 < 0))) (v' := (.d (.i .i64 p1))) (by kernel_rfl) rfl rfl (fun hc => vop_val1 (by kernel_rfl) (by kernel_rfl)) ?_
  refine gp_step (p := true) (b := (decide (p1 < 0))) (v' := (.d (.i .i64 (IntKind.wrap .i64 (9223372036854775807 + p1))))) (by kernel_rfl) rfl rfl (fun hc => vop_val1 (Eq.trans (b := ([(true && ((decide (p1 < 0)) == true))] : List Bool).all id) (by kernel_rfl) (all_c hc rfl)) (by kernel_rfl)) ?_
  refine gp_step (p := true) (b := (decide (p1 < 0))) (v' := (.d (.b (decide ((IntKind.wrap .i64 (9223372036854775807 + p1)) < p0))))) (by kernel_rfl) rfl rfl (fun hc => vop_val1 (Eq.trans (b := ([(true && ((decide (p1 < 0)) == true)), (true && ((decide (p1 < 0)) == true))] : List Bool).all id) (by kernel_rfl) (all_c hc (all_c hc rfl))) (by kernel_rfl)) ?_
  refine p_step (v' := (.d (.b (if (decide (p1 < 0)) = true then (decide ((IntKind.wrap .i64 (9223372036854775807 + p1)) < p0)) else false)))) rfl rfl (vop_pick (b := (decide (p1 < 0))) (p := (true && ((decide (p1 < 0)) == true))) (u := (decide ((IntKind.wrap .i64 (9223372036854775807 + p1)) < p0))) (q := true) (v := false) (by kernel_rfl) (by kernel_rfl) (by kernel_rfl) (by kernel_rfl) (fun hb => gc_t rfl hb) (fun _ => rfl)) ?_
  refine sts_ok 1 (s' := ⟨[(14, (.d (.b (if (decide (p1 < 0)) = true then (decide ((IntKind.wrap .i64 (9223372036854775807 + p1)) < p0)) else false)))), (13, (.d (.b (if (decide (p1 < 0)) = true then (decide ((IntKind.wrap .i64 (9223372036854775807 + p1)) < p0)) else false)))), (12, (.ite (true && ((decide (p1 < 0)) == true)) (.d (.b (decide ((IntKind.wrap .i64 (9223372036854775807 + p1)) < p0)))))), (11, (.ite (true && ((decide (p1 < 0)) == true)) (.d (.i .i64 (IntKind.wrap .i64 (9223372036854775807 + p1)))))), (10, (.ite (true && ((decide (p1 < 0)) == true)) (.d (.i .i64 p1)))), (9, (.ite (true && ((decide (p1 < 0)) == true)) (.d (.i .i64 p0)))), (8, (.d (.b (decide (p1 < 0))))), (7, (.d (.b (decide (p1 < 0))))), (6, (.d (.i .i64 p1))), (5, (.d (.b false))), (4, (.d (.i .i64 0))), (0, (.d (.i .i64 p0))), (1, (.d (.i .i64 p1)))], []⟩) (by kernel_rfl) ?_
  refine gp_step (p := true) (b := (if (decide (p1 < 0)) = true then (decide ((IntKind.wrap .i64 (9223372036854775807 + p1)) < p0)) else false)) (v' := (.d (.i .i64 p1))) (by kernel_rfl) rfl rfl (fun hc => vop_val1 (by kernel_rfl) (by kernel_rfl)) ?_
  refine gp_step (p := true) (b := (if (decide (p1 < 0)) = true then (decide ((IntKind.wrap .i64 (9223372036854775807 + p1)) < p0)) else false)) (v' := (.d (.b (decide (0 < p1))))) (by kernel_rfl) rfl rfl (fun hc => vop_val1 (Eq.trans (b := ([(true && ((if (decide (p1 < 0)) = true then (decide ((IntKind.wrap .i64 (9223372036854775807 + p1)) < p0)) else false) == false))] : List Bool).all id) (by kernel_rfl) (all_c hc rfl)) (by kernel_rfl)) ?_
  refine gp_step (p := true) (b := (if (decide (p1 < 0)) = true then (decide ((IntKind.wrap .i64 (9223372036854775807 + p1)) < p0)) else false)) (v' := (.d (.b (decide (0 < p1))))) (by kernel_rfl) rfl rfl (fun hc => vop_val1 (Eq.trans (b := ([(true && ((if (decide (p1 < 0)) = true then (decide ((IntKind.wrap .i64 (9223372036854775807 + p1)) < p0)) else false) == false))] : List Bool).all id) (by kernel_rfl) (all_c hc rfl)) (by kernel_rfl)) ?_
  refine gp_step (p := (true && ((if (decide (p1 < 0)) = true then (decide ((IntKind.wrap .i64 (9223372036854775807 + p1)) < p0)) else false) == false))) (b := (decide (0 < p1))) (v' := (.d (.i .i64 p0))) (by kernel_rfl) rfl rfl (fun hc => vop_val1 (by kernel_rfl) (by kernel_rfl)) ?_
  refine gp_step (p := (true && ((if (decide (p1 < 0)) = true then (decide ((IntKind.wrap .i64 (9223372036854775807 + p1)) < p0)) else false) == false))) (b := (decide (0 < p1))) (v' := (.d (.i .i64 p1))) (by kernel_rfl) rfl rfl (fun hc => vop_val1 (by kernel_rfl) (by kernel_rfl)) ?_
  refine gp_step (p := (true && ((if (decide (p1 < 0)) = true then (decide ((IntKind.wrap .i64 (9223372036854775807 + p1)) < p0)) else false) == false))) (b := (decide (0 < p1))) (v' := (.d (.i .i64 (IntKind.wrap .i64 ((-9223372036854775808) + p1))))) (by kernel_rfl) rfl rfl (fun hc => vop_val1 (Eq.trans (b := ([((true && ((if (decide (p1 < 0)) = true then (decide ((IntKind.wrap .i64 (9223372036854775807 + p1)) < p0)) else false) == false)) && ((decide (0 < p1)) == true))] : List Bool).all id) (by kernel_rfl) (all_c hc rfl)) (by kernel_rfl)) ?_
  refine gp_step (p := (true && ((if (decide (p1 < 0)) = true then (decide ((IntKind.wrap .i64 (9223372036854775807 + p1)) < p0)) else false) == false))) (b := (decide (0 < p1))) (v' := (.d (.b (decide (p0 < (IntKind.wrap .i64 ((-9223372036854775808) + p1))))))) (by kernel_rfl) rfl rfl (fun hc => vop_val1 (Eq.trans (b := ([((true && ((if (decide (p1 < 0)) = true then (decide ((IntKind.wrap .i64 (9223372036854775807 + p1)) < p0)) else false) == false)) && ((decide (0 < p1)) == true)), ((true && ((if (decide (p1 < 0)) = true then (decide ((IntKind.wrap .i64 (9223372036854775807 + p1)) < p0)) else false) == false)) && ((decide (0 < p1)) == true))] : List Bool).all id) (by kernel_rfl) (all_c hc (all_c hc rfl))) (by kernel_rfl)) ?_
  refine gp_step (p := true) (b := (if (decide (p1 < 0)) = true then (decide ((IntKind.wrap .i64 (9223372036854775807 + p1)) < p0)) else false)) (v' := (.d (.b (if (decide (0 < p1)) = true then (decide (p0 < (IntKind.wrap .i64 ((-9223372036854775808) + p1)))) else false)))) (by kernel_rfl) rfl rfl (fun hc => vop_pick (b := (decide (0 < p1))) (p := ((true && ((if (decide (p1 < 0)) = true then (decide ((IntKind.wrap .i64 (9223372036854775807 + p1)) < p0)) else false) == false)) && ((decide (0 < p1)) == true))) (u := (decide (p0 < (IntKind.wrap .i64 ((-9223372036854775808) + p1))))) (q := true) (v := false) (Eq.trans (b := ([(true && ((if (decide (p1 < 0)) = true then (decide ((IntKind.wrap .i64 (9223372036854775807 + p1)) < p0)) else false) == false))] : List Bool).all id) (by kernel_rfl) (all_c hc rfl)) (by kernel_rfl) (by kernel_rfl) (by kernel_rfl) (fun hb => gc_t hc hb) (fun _ => rfl)) ?_
  refine p_step (v' := (.d (.b (if (if (decide (p1 < 0)) = true then (decide ((IntKind.wrap .i64 (9223372036854775807 + p1)) < p0)) else false) = true then true else (if (decide (0 < p1)) = true then (decide (p0 < (IntKind.wrap .i64 ((-9223372036854775808) + p1)))) else false))))) rfl rfl (vop_pick (b := (if (decide (p1 < 0)) = true then (decide ((IntKind.wrap .i64 (9223372036854775807 + p1)) < p0)) else false)) (p := true) (u := true) (q := (true && ((if (decide (p1 < 0)) = true then (decide ((IntKind.wrap .i64 (9223372036854775807 + p1)) < p0)) else false) == false))) (v := (if (decide (0 < p1)) = true then (decide (p0 < (IntKind.wrap .i64 ((-9223372036854775808) + p1)))) else false)) (by kernel_rfl) (by kernel_rfl) (by kernel_rfl) (by kernel_rfl) (fun _ => rfl) (fun hb => gc_f rfl hb)) ?_
  refine nil_in ?_
  refine next_in ?_
  refine cond_step h (by kernel_rfl) ?_ ?_
  · clear h; intro h
    refine seq_in ?_
    refine ops_in ?_
    refine sts_ok 2 (s' := ⟨[(5, (.d (.b false))), (4, (.d (.i .i64 0))), (23, (.d (.b (if (if (decide (p1 < 0)) = true then (decide ((IntKind.wrap .i64 (9223372036854775807 + p1)) < p0)) else false) = true then true else (if (decide (0 < p1)) = true then (decide (p0 < (IntKind.wrap .i64 ((-9223372036854775808) + p1)))) else false))))), (22, (.ite (true && ((if (decide (p1 < 0)) = true then (decide ((IntKind.wrap .i64 (9223372036854775807 + p1)) < p0)) else false) == false)) (.d (.b (if (decide (0 < p1)) = true then (decide (p0 < (IntKind.wrap .i64 ((-9223372036854775808) + p1)))) else false))))), (21, (.ite ((true && ((if (decide (p1 < 0)) = true then (decide ((IntKind.wrap .i64 (9223372036854775807 + p1)) < p0)) else false) == false)) && ((decide (0 < p1)) == true)) (.d (.b (decide (p0 < (IntKind.wrap .i64 ((-9223372036854775808) + p1)))))))), (20, (.ite ((true && ((if (decide (p1 < 0)) = true then (decide ((IntKind.wrap .i64 (9223372036854775807 + p1)) < p0)) else false) == false)) && ((decide (0 < p1)) == true)) (.d (.i .i64 (IntKind.wrap .i64 ((-9223372036854775808) + p1)))))), (19, (.ite ((true && ((if (decide (p1 < 0)) = true then (decide ((IntKind.wrap .i64 (9223372036854775807 + p1)) < p0)) else false) == false)) && ((decide (0 < p1)) == true)) (.d (.i .i64 p1)))), (18, (.ite ((true && ((if (decide (p1 < 0)) = true then (decide ((IntKind.wrap .i64 (9223372036854775807 + p1)) < p0)) else false) == false)) && ((decide (0 < p1)) == true)) (.d (.i .i64 p0)))), (17, (.ite (true && ((if (decide (p1 < 0)) = true then (decide ((IntKind.wrap .i64 (9223372036854775807 + p1)) < p0)) else false) == false)) (.d (.b (decide (0 < p1)))))), (16, (.ite (true && ((if (decide (p1 < 0)) = true then (decide ((IntKind.wrap .i64 (9223372036854775807 + p1)) < p0)) else false) == false)) (.d (.b (decide (0 < p1)))))), (15, (.ite (true && ((if (decide (p1 < 0)) = true then (decide ((IntKind.wrap .i64 (9223372036854775807 + p1)) < p0)) else false) == false)) (.d (.i .i64 p1)))), (14, (.d (.b (if (decide (p1 < 0)) = true then (decide ((IntKind.wrap .i64 (9223372036854775807 + p1)) < p0)) else false)))), (13, (.d (.b (if (decide (p1 < 0)) = true then (decide ((IntKind.wrap .i64 (9223372036854775807 + p1)) < p0)) else false)))), (12, (.ite (true && ((decide (p1 < 0)) == true)) (.d (.b (decide ((IntKind.wrap .i64 (9223372036854775807 + p1)) < p0)))))), (11, (.ite (true && ((decide (p1 < 0)) == true)) (.d (.i .i64 (IntKind.wrap .i64 (9223372036854775807 + p1)))))), (10, (.ite (true && ((decide (p1 < 0)) == true)) (.d (.i .i64 p1)))), (9, (.ite (true && ((decide (p1 < 0)) == true)) (.d (.i .i64 p0)))), (8, (.d (.b (decide (p1 < 0))))), (7, (.d (.b (decide (p1 < 0))))), (6, (.d (.i .i64 p1))), (5, (.d (.b false))), (4, (.d (.i .i64 0))), (0, (.d (.i .i64 p0))), (1, (.d (.i .i64 p1)))], []⟩) (by kernel_rfl) ?_
    refine nil_in ?_
    refine next_in ?_
    refine ret_in ?_
    refine thenK_ret ?_
    have h := Option.some.inj h; subst h
    exact retn_step (vs := [(.d (.i .i64 0)), (.d (.b false))]) (by kernel_rfl) (by kernel_rfl)
  · clear h; intro h
    refine skip_in ?_
    refine next_in ?_
    refine seq_in ?_
    refine ops_in ?_
    refine sts_ok 5 (s' := ⟨[(5, (.d (.b true))), (4, (.d (.i .i64 (IntKind.wrap .i64 (p0 - p1))))), (26, (.d (.i .i64 (IntKind.wrap .i64 (p0 - p1))))), (25, (.d (.i .i64 p1))), (24, (.d (.i .i64 p0))), (23, (.d (.b (if (if (decide (p1 < 0)) = true then (decide ((IntKind.wrap .i64 (9223372036854775807 + p1)) < p0)) else false) = true then true else (if (decide (0 < p1)) = true then (decide (p0 < (IntKind.wrap .i64 ((-9223372036854775808) + p1)))) else false))))), (22, (.ite (true && ((if (decide (p1 < 0)) = true then (decide ((IntKind.wrap .i64 (9223372036854775807 + p1)) < p0)) else false) == false)) (.d (.b (if (decide (0 < p1)) = true then (decide (p0 < (IntKind.wrap .i64 ((-9223372036854775808) + p1)))) else false))))), (21, (.ite ((true && ((if (decide (p1 < 0)) = true then (decide ((IntKind.wrap .i64 (9223372036854775807 + p1)) < p0)) else false) == false)) && ((decide (0 < p1)) == true)) (.d (.b (decide (p0 < (IntKind.wrap .i64 ((-9223372036854775808) + p1)))))))), (20, (.ite ((true && ((if (decide (p1 < 0)) = true then (decide ((IntKind.wrap .i64 (9223372036854775807 + p1)) < p0)) else false) == false)) && ((decide (0 < p1)) == true)) (.d (.i .i64 (IntKind.wrap .i64 ((-9223372036854775808) + p1)))))), (19, (.ite ((true && ((if (decide (p1 < 0)) = true then (decide ((IntKind.wrap .i64 (9223372036854775807 + p1)) < p0)) else false) == false)) && ((decide (0 < p1)) == true)) (.d (.i .i64 p1)))), (18, (.ite ((true && ((if (decide (p1 < 0)) = true then (decide ((IntKind.wrap .i64 (9223372036854775807 + p1)) < p0)) else false) == false)) && ((decide (0 < p1)) == true)) (.d (.i .i64 p0)))), (17, (.ite (true && ((if (decide (p1 < 0)) = true then (decide ((IntKind.wrap .i64 (9223372036854775807 + p1)) < p0)) else false) == false)) (.d (.b (decide (0 < p1)))))), (16, (.ite (true && ((if (decide (p1 < 0)) = true then (decide ((IntKind.wrap .i64 (9223372036854775807 + p1)) < p0)) else false) == false)) (.d (.b (decide (0 < p1)))))), (15, (.ite (true && ((if (decide (p1 < 0)) = true then (decide ((IntKind.wrap .i64 (9223372036854775807 + p1)) < p0)) else false) == false)) (.d (.i .i64 p1)))), (14, (.d (.b (if (decide (p1 < 0)) = true then (decide ((IntKind.wrap .i64 (9223372036854775807 + p1)) < p0)) else false)))), (13, (.d (.b (if (decide (p1 < 0)) = true then (decide ((IntKind.wrap .i64 (9223372036854775807 + p1)) < p0)) else false)))), (12, (.ite (true && ((decide (p1 < 0)) == true)) (.d (.b (decide ((IntKind.wrap .i64 (9223372036854775807 + p1)) < p0)))))), (11, (.ite (true && ((decide (p1 < 0)) == true)) (.d (.i .i64 (IntKind.wrap .i64 (9223372036854775807 + p1)))))), (10, (.ite (true && ((decide (p1 < 0)) == true)) (.d (.i .i64 p1)))), (9, (.ite (true && ((decide (p1 < 0)) == true)) (.d (.i .i64 p0)))), (8, (.d (.b (decide (p1 < 0))))), (7, (.d (.b (decide (p1 < 0))))), (6, (.d (.i .i64 p1))), (5, (.d (.b false))), (4, (.d (.i .i64 0))), (0, (.d (.i .i64 p0))), (1, (.d (.i .i64 p1)))], []⟩) (by kernel_rfl) ?_
    refine nil_in ?_
    refine next_in ?_
    refine ret_in ?_
    have h := Option.some.inj h; subst h
    exact retn_step (vs := [(.d (.i .i64 (IntKind.wrap .i64 (p0 - p1)))), (.d (.b true))]) (by kernel_rfl) (by kernel_rfl)
theorem OK_iArithmetic (p0 : Int) (p1 : Int) (p2 : Int) : FOk Try.prog 137 [(.d (.i .i64 p0)), (.d (.i .i64 p1)), (.d (.i .i64 p2))] (fun y => (.tup [(vGValue y.1), (.d (.i .i64 y.2))])) (iArithmetic p0 p1 p2) := by
  intro r h
  rw [iArithmetic] at h
  refine acalls_of_fn triArithmetic (Nat.le_of_ble_eq_true rfl) (by simp) ?_
  show avc Try.prog aciArithmetic (qiArithmetic _) ⟨[(0, (.d (.i .i64 p0))), (1, (.d (.i .i64 p1))), (2, (.d (.i .i64 p2)))], []⟩
  delta aciArithmetic
  refine seq_in ?_
  refine ops_in ?_
  refine sts_ok 2 (s' := ⟨[(7, (.d (.i .i64 0))), (6, (.ptr 6 0)), (0, (.d (.i .i64 p0))), (1, (.d (.i .i64 p1))), (2, (.d (.i .i64 p2)))], [(6, [(.d (.i .i64 0)), (.d (.i .i64 0)), (.d (.s (bs [])))])]⟩) (by kernel_rfl) ?_
  refine nil_in ?_
  refine next_in ?_
  refine seq_in ?_
  refine ops_in ?_
  refine sts_ok 2 (s' := ⟨[(9, (.d (.b false))), (8, (.d (.i .i64 0))), (7, (.d (.i .i64 0))), (6, (.ptr 6 0)), (0, (.d (.i .i64 p0))), (1, (.d (.i .i64 p1))), (2, (.d (.i .i64 p2)))], [(6, [(.d (.i .i64 0)), (.d (.i .i64 0)), (.d (.s (bs [])))])]⟩) (by kernel_rfl) ?_
  refine nil_in ?_
  refine next_in ?_
  refine seq_in ?_
  refine seq_in ?_
  refine ops_in ?_
  refine sts_ok 1 (s' := ⟨[(10, (.d (.i .i64 p0))), (9, (.d (.b false))), (8, (.d (.i .i64 0))), (7, (.d (.i .i64 0))), (6, (.ptr 6 0)), (0, (.d (.i .i64 p0))), (1, (.d (.i .i64 p1))), (2, (.d (.i .i64 p2)))], [(6, [(.d (.i .i64 0)), (.d (.i .i64 0)), (.d (.s (bs [])))])]⟩) (by kernel_rfl) ?_
  refine nil_in ?_
  refine next_in ?_
  refine block_in ?_
  refine seq_in ?_
  refine ops_in ?_
  refine sts_ok 2 (s' := ⟨[(17, (.d (.b (decide (p0 = 10))))), (18, (.d (.b (decide (p0 = 10))))), (10, (.d (.i .i64 p0))), (9, (.d (.b false))), (8, (.d (.i .i64 0))), (7, (.d (.i .i64 0))), (6, (.ptr 6 0)), (0, (.d (.i .i64 p0))), (1, (.d (.i .i64 p1))), (2, (.d (.i .i64 p2)))], [(6, [(.d (.i .i64 0)), (.d (.i .i64 0)), (.d (.s (bs [])))])]⟩) (by kernel_rfl) ?_
  refine nil_in ?_
  refine next_in ?_
  refine cond_step h (by kernel_rfl) ?_ ?_
  · clear h; intro h
    refine ops_in ?_
    refine sts_ok 2 (s' := ⟨[(21, (.d (.i .i64 p2))), (20, (.d (.i .i64 p1))), (17, (.d (.b (decide (p0 = 10))))), (18, (.d (.b (decide (p0 = 10))))), (10, (.d (.i .i64 p0))), (9, (.d (.b false))), (8, (.d (.i .i64 0))), (7, (.d (.i .i64 0))), (6, (.ptr 6 0)), (0, (.d (.i .i64 p0))), (1, (.d (.i .i64 p1))), (2, (.d (.i .i64 p2)))], [(6, [(.d (.i .i64 0)), (.d (.i .i64 0)), (.d (.s (bs [])))])]⟩) (by kernel_rfl) ?_
    refine call_step (m := iAddNum p1 p2) (args := [(.d (.i .i64 p1)), (.d (.i .i64 p2))]) (v' := (fun y => (.tup [(.d (.i .i64 y.1)), (.d (.b y.2))]))) h (OK_iAddNum p1 p2) (by kernel_rfl) (by kernel_rfl) (fun _ => rfl) ?_
    clear h; intro y1 h
    refine sts_ok 5 (s' := ⟨[(9, (.d (.b y1.2))), (8, (.d (.i .i64 y1.1))), (24, (.d (.b y1.2))), (23, (.d (.i .i64 y1.1))), (19, (.tup [(.d (.i .i64 y1.1)), (.d (.b y1.2))])), (22, (.tup [(.d (.i .i64 y1.1)), (.d (.b y1.2))])), (21, (.d (.i .i64 p2))), (20, (.d (.i .i64 p1))), (17, (.d (.b (decide (p0 = 10))))), (18, (.d (.b (decide (p0 = 10))))), (10, (.d (.i .i64 p0))), (9, (.d (.b false))), (8, (.d (.i .i64 0))), (7, (.d (.i .i64 0))), (6, (.ptr 6 0)), (0, (.d (.i .i64 p0))), (1, (.d (.i .i64 p1))), (2, (.d (.i .i64 p2)))], [(6, [(.d (.i .i64 0)), (.d (.i .i64 0)), (.d (.s (bs [])))])]⟩) (by kernel_rfl) ?_
    refine nil_in ?_
    refine blockK_norm ?_
    exact next_step (s' := stiArithmetic_J0 y1.1 y1.2) (wk_ren [] (by kernel_rfl) (er_cons (vr_same (by kernel_rfl) (by kernel_rfl)) (er_cons (vr_same (by kernel_rfl) (by kernel_rfl)) (er_cons (vr_same (by kernel_rfl) (by kernel_rfl)) (er_nil)))) (br_same (by kernel_rfl) (by kernel_rfl) (br_nil))) (OK_iArithmetic_J0 y1.1 y1.2 _ h)
  · clear h; intro h
    refine seq_in ?_
    refine ops_in ?_
    refine sts_ok 2 (s' := ⟨[(25, (.d (.b (decide (p0 = 11))))), (26, (.d (.b (decide (p0 = 11))))), (17, (.d (.b (decide (p0 = 10))))), (18, (.d (.b (decide (p0 = 10))))), (10, (.d (.i .i64 p0))), (9, (.d (.b false))), (8, (.d (.i .i64 0))), (7, (.d (.i .i64 0))), (6, (.ptr 6 0)), (0, (.d (.i .i64 p0))), (1, (.d (.i .i64 p1))), (2, (.d (.i .i64 p2)))], [(6, [(.d (.i .i64 0)), (.d (.i .i64 0)), (.d (.s (bs [])))])]⟩) (by kernel_rfl) ?_
    refine nil_in ?_
    refine next_in ?_
    refine cond_step h (by kernel_rfl) ?_ ?_
    · clear h; intro h
      refine ops_in ?_
      refine sts_ok 2 (s' := ⟨[(29, (.d (.i .i64 p2))), (28, (.d (.i .i64 p1))), (25, (.d (.b (decide (p0 = 11))))), (26, (.d (.b (decide (p0 = 11))))), (17, (.d (.b (decide (p0 = 10))))), (18, (.d (.b (decide (p0 = 10))))), (10, (.d (.i .i64 p0))), (9, (.d (.b false))), (8, (.d (.i .i64 0))), (7, (.d (.i .i64 0))), (6, (.ptr 6 0)), (0, (.d (.i .i64 p0))), (1, (.d (.i .i64 p1))), (2, (.d (.i .i64 p2)))], [(6, [(.d (.i .i64 0)), (.d (.i .i64 0)), (.d (.s (bs [])))])]⟩) (by kernel_rfl) ?_
      refine call_step (m := iSubNum p1 p2) (args := [(.d (.i .i64 p1)), (.d (.i .i64 p2))]) (v' := (fun y => (.tup [(.d (.i .i64 y.1)), (.d (.b y.2))]))) h (OK_iSubNum p1 p2) (by kernel_rfl) (by kernel_rfl) (fun _ => rfl) ?_
      clear h; intro y2 h
      refine sts_ok 5 (s' := ⟨[(9, (.d (.b y2.2))), (8, (.d (.i .i64 y2.1))), (32, (.d (.b y2.2))), (31, (.d (.i .i64 y2.1))), (27, (.tup [(.d (.i .i64 y2.1)), (.d (.b y2.2))])), (30, (.tup [(.d (.i .i64 y2.1)), (.d (.b y2.2))])), (29, (.d (.i .i64 p2))), (28, (.d (.i .i64 p1))), (25, (.d (.b (decide (p0 = 11))))), (26, (.d (.b (decide (p0 = 11))))), (17, (.d (.b (decide (p0 = 10))))), (18, (.d (.b (decide (p0 = 10))))), (10, (.d (.i .i64 p0))), (9, (.d (.b false))), (8, (.d (.i .i64 0))), (7, (.d (.i .i64 0))), (6, (.ptr 6 0)), (0, (.d (.i .i64 p0))), (1, (.d (.i .i64 p1))), (2, (.d (.i .i64 p2)))], [(6, [(.d (.i .i64 0)), (.d (.i .i64 0)), (.d (.s (bs [])))])]⟩) (by kernel_rfl) ?_
      refine nil_in ?_
      refine blockK_norm ?_
      exact next_step (s' := stiArithmetic_J0 y2.1 y2.2) (wk_ren [] (by kernel_rfl) (er_cons (vr_same (by kernel_rfl) (by kernel_rfl)) (er_cons (vr_same (by kernel_rfl) (by kernel_rfl)) (er_cons (vr_same (by kernel_rfl) (by kernel_rfl)) (er_nil)))) (br_same (by kernel_rfl) (by kernel_rfl) (br_nil))) (OK_iArithmetic_J0 y2.1 y2.2 _ h)
    · clear h; intro h
      refine seq_in ?_
      refine ops_in ?_
      refine sts_ok 2 (s' := ⟨[(33, (.d (.b (decide (p0 = 12))))), (34, (.d (.b (decide (p0 = 12))))), (25, (.d (.b (decide (p0 = 11))))), (26, (.d (.b (decide (p0 = 11))))), (17, (.d (.b (decide (p0 = 10))))), (18, (.d (.b (decide (p0 = 10))))), (10, (.d (.i .i64 p0))), (9, (.d (.b false))), (8, (.d (.i .i64 0))), (7, (.d (.i .i64 0))), (6, (.ptr 6 0)), (0, (.d (.i .i64 p0))), (1, (.d (.i .i64 p1))), (2, (.d (.i .i64 p2)))], [(6, [(.d (.i .i64 0)), (.d (.i .i64 0)), (.d (.s (bs [])))])]⟩) (by kernel_rfl) ?_
      refine nil_in ?_
      refine next_in ?_
      refine cond_step h (by kernel_rfl) ?_ ?_
      · clear h; intro h
        refine ops_in ?_
        refine sts_ok 2 (s' := ⟨[(37, (.d (.i .i64 p2))), (36, (.d (.i .i64 p1))), (33, (.d (.b (decide (p0 = 12))))), (34, (.d (.b (decide (p0 = 12))))), (25, (.d (.b (decide (p0 = 11))))), (26, (.d (.b (decide (p0 = 11))))), (17, (.d (.b (decide (p0 = 10))))), (18, (.d (.b (decide (p0 = 10))))), (10, (.d (.i .i64 p0))), (9, (.d (.b false))), (8, (.d (.i .i64 0))), (7, (.d (.i .i64 0))), (6, (.ptr 6 0)), (0, (.d (.i .i64 p0))), (1, (.d (.i .i64 p1))), (2, (.d (.i .i64 p2)))], [(6, [(.d (.i .i64 0)), (.d (.i .i64 0)), (.d (.s (bs [])))])]⟩) (by kernel_rfl) ?_
        refine call_step (m := iMulNum p1 p2) (args := [(.d (.i .i64 p1)), (.d (.i .i64 p2))]) (v' := (fun y => (.tup [(.d (.i .i64 y.1)), (.d (.b y.2))]))) h (OK_iMulNum p1 p2) (by kernel_rfl) (by kernel_rfl) (fun _ => rfl) ?_
        clear h; intro y3 h
        refine sts_ok 5 (s' := ⟨[(9, (.d (.b y3.2))), (8, (.d (.i .i64 y3.1))), (40, (.d (.b y3.2))), (39, (.d (.i .i64 y3.1))), (35, (.tup [(.d (.i .i64 y3.1)), (.d (.b y3.2))])), (38, (.tup [(.d (.i .i64 y3.1)), (.d (.b y3.2))])), (37, (.d (.i .i64 p2))), (36, (.d (.i .i64 p1))), (33, (.d (.b (decide (p0 = 12))))), (34, (.d (.b (decide (p0 = 12))))), (25, (.d (.b (decide (p0 = 11))))), (26, (.d (.b (decide (p0 = 11))))), (17, (.d (.b (decide (p0 = 10))))), (18, (.d (.b (decide (p0 = 10))))), (10, (.d (.i .i64 p0))), (9, (.d (.b false))), (8, (.d (.i .i64 0))), (7, (.d (.i .i64 0))), (6, (.ptr 6 0)), (0, (.d (.i .i64 p0))), (1, (.d (.i .i64 p1))), (2, (.d (.i .i64 p2)))], [(6, [(.d (.i .i64 0)), (.d (.i .i64 0)), (.d (.s (bs [])))])]⟩) (by kernel_rfl) ?_
        refine nil_in ?_
        refine blockK_norm ?_
        exact next_step (s' := stiArithmetic_J0 y3.1 y3.2) (wk_ren [] (by kernel_rfl) (er_cons (vr_same (by kernel_rfl) (by kernel_rfl)) (er_cons (vr_same (by kernel_rfl) (by kernel_rfl)) (er_cons (vr_same (by kernel_rfl) (by kernel_rfl)) (er_nil)))) (br_same (by kernel_rfl) (by kernel_rfl) (br_nil))) (OK_iArithmetic_J0 y3.1 y3.2 _ h)
      · clear h; intro h
        refine seq_in ?_
        refine ops_in ?_
        refine sts_ok 3 (s' := ⟨[(13, (.d (.i .i64 p2))), (12, (.d (.i .i64 p1))), (11, (.d (.i .i64 p0))), (33, (.d (.b (decide (p0 = 12))))), (34, (.d (.b (decide (p0 = 12))))), (25, (.d (.b (decide (p0 = 11))))), (26, (.d (.b (decide (p0 = 11))))), (17, (.d (.b (decide (p0 = 10))))), (18, (.d (.b (decide (p0 = 10))))), (10, (.d (.i .i64 p0))), (9, (.d (.b false))), (8, (.d (.i .i64 0))), (7, (.d (.i .i64 0))), (6, (.ptr 6 0)), (0, (.d (.i .i64 p0))), (1, (.d (.i .i64 p1))), (2, (.d (.i .i64 p2)))], [(6, [(.d (.i .i64 0)), (.d (.i .i64 0)), (.d (.s (bs [])))])]⟩) (by kernel_rfl) ?_
        refine call_step (m := iDivided p0 p1 p2) (args := [(.d (.i .i64 p0)), (.d (.i .i64 p1)), (.d (.i .i64 p2))]) (v' := (fun y => (.tup [(vGValue y.1), (.d (.i .i64 y.2))]))) h (OK_iDivided p0 p1 p2) (by kernel_rfl) (by kernel_rfl) (fun _ => rfl) ?_
        clear h; intro y4 h
        refine sts_ok 4 (s' := ⟨[(7, (.d (.i .i64 y4.2))), (16, (.d (.i .i64 y4.2))), (15, (vGValue y4.1)), (14, (.tup [(vGValue y4.1), (.d (.i .i64 y4.2))])), (13, (.d (.i .i64 p2))), (12, (.d (.i .i64 p1))), (11, (.d (.i .i64 p0))), (33, (.d (.b (decide (p0 = 12))))), (34, (.d (.b (decide (p0 = 12))))), (25, (.d (.b (decide (p0 = 11))))), (26, (.d (.b (decide (p0 = 11))))), (17, (.d (.b (decide (p0 = 10))))), (18, (.d (.b (decide (p0 = 10))))), (10, (.d (.i .i64 p0))), (9, (.d (.b false))), (8, (.d (.i .i64 0))), (7, (.d (.i .i64 0))), (6, (.ptr 6 0)), (0, (.d (.i .i64 p0))), (1, (.d (.i .i64 p1))), (2, (.d (.i .i64 p2)))], [(6, [(.d (.i .i64 y4.1.kind)), (.d (.i .i64 y4.1.num)), (.d (.s (bs y4.1.text)))])]⟩) (by kernel_rfl) ?_
        refine nil_in ?_
        refine next_in ?_
        refine ret_in ?_
        refine blockK_ret ?_
        refine thenK_ret ?_
        have h := Option.some.inj h; subst h
        exact retn_step (vs := [(vGValue y4.1), (.d (.i .i64 y4.2))]) (by kernel_rfl) (by kernel_rfl)
theorem OK_gCmp_isNaN_int (p0 : Int) : FOk Try.prog 220 [(.d (.i .i64 p0))] (fun y => (.d (.b y))) (gCmp_isNaN_int p0) := by
  intro r h
  rw [gCmp_isNaN_int] at h
  refine acalls_of_fn trgCmp_isNaN_int (Nat.le_of_ble_eq_true rfl) (by simp) ?_
  show avc Try.prog acgCmp_isNaN_int (qgCmp_isNaN_int _) ⟨[(0, (.d (.i .i64 p0)))], []⟩
  delta acgCmp_isNaN_int
  refine seq_in ?_
  refine ops_in ?_
  refine sts_ok 1 (s' := ⟨[(2, (.d (.b false))), (0, (.d (.i .i64 p0)))], []⟩) (by kernel_rfl) ?_
  refine nil_in ?_
  refine next_in ?_
  refine seq_in ?_
  refine ops_in ?_
  refine sts_ok 4 (s' := ⟨[(2, (.d (.b (!decide (p0 = p0))))), (5, (.d (.b (!decide (p0 = p0))))), (4, (.d (.i .i64 p0))), (3, (.d (.i .i64 p0))), (2, (.d (.b false))), (0, (.d (.i .i64 p0)))], []⟩) (by kernel_rfl) ?_
  refine nil_in ?_
  refine next_in ?_
  refine ret_in ?_
  have h := Option.some.inj h; subst h
  exact ret1_step (v := (.d (.b (!decide (p0 = p0))))) (by kernel_rfl) (by kernel_rfl) (by kernel_rfl)
theorem OK_gCmp_Compare_int (p0 : Int) (p1 : Int) : FOk Try.prog 211 [(.d (.i .i64 p0)), (.d (.i .i64 p1))] (fun y => (.d (.i .i64 y))) (gCmp_Compare_int p0 p1) := by
  intro r h
  rw [gCmp_Compare_int] at h
  refine acalls_of_fn trgCmp_Compare_int (Nat.le_of_ble_eq_true rfl) (by simp) ?_
  show avc Try.prog acgCmp_Compare_int (qgCmp_Compare_int _) ⟨[(0, (.d (.i .i64 p0))), (1, (.d (.i .i64 p1)))], []⟩
  delta acgCmp_Compare_int
  refine seq_in ?_
  refine ops_in ?_
  refine sts_ok 1 (s' := ⟨[(4, (.d (.i .i64 0))), (0, (.d (.i .i64 p0))), (1, (.d (.i .i64 p1)))], []⟩) (by kernel_rfl) ?_
  refine nil_in ?_
  refine next_in ?_
  refine seq_in ?_
  refine ops_in ?_
  refine sts_ok 1 (s' := ⟨[(7, (.d (.i .i64 p0))), (4, (.d (.i .i64 0))), (0, (.d (.i .i64 p0))), (1, (.d (.i .i64 p1)))], []⟩) (by kernel_rfl) ?_
  refine call_step (m := gCmp_isNaN_int p0) (args := [(.d (.i .i64 p0))]) (v' := (fun y => (.d (.b y)))) h (OK_gCmp_isNaN_int p0) (by kernel_rfl) (by kernel_rfl) (fun _ => rfl) ?_
  clear h; intro y1 h
  refine sts_ok 1 (s' := ⟨[(5, (.d (.b y1))), (8, (.d (.b y1))), (7, (.d (.i .i64 p0))), (4, (.d (.i .i64 0))), (0, (.d (.i .i64 p0))), (1, (.d (.i .i64 p1)))], []⟩) (by kernel_rfl) ?_
  refine nil_in ?_
  refine next_in ?_
  refine seq_in ?_
  refine ops_in ?_
  refine sts_ok 1 (s' := ⟨[(9, (.d (.i .i64 p1))), (5, (.d (.b y1))), (8, (.d (.b y1))), (7, (.d (.i .i64 p0))), (4, (.d (.i .i64 0))), (0, (.d (.i .i64 p0))), (1, (.d (.i .i64 p1)))], []⟩) (by kernel_rfl) ?_
  refine call_step (m := gCmp_isNaN_int p1) (args := [(.d (.i .i64 p1))]) (v' := (fun y => (.d (.b y)))) h (OK_gCmp_isNaN_int p1) (by kernel_rfl) (by kernel_rfl) (fun _ => rfl) ?_
  clear h; intro y2 h
  refine sts_ok 1 (s' := ⟨[(6, (.d (.b y2))), (10, (.d (.b y2))), (9, (.d (.i .i64 p1))), (5, (.d (.b y1))), (8, (.d (.b y1))), (7, (.d (.i .i64 p0))), (4, (.d (.i .i64 0))), (0, (.d (.i .i64 p0))), (1, (.d (.i .i64 p1)))], []⟩) (by kernel_rfl) ?_
  refine nil_in ?_
  refine next_in ?_
  refine seq_in ?_
  refine seq_in ?_
  refine ops_in ?_
  refine sts_ok 1 (s' := ⟨[(11, (.d (.b y1))), (6, (.d (.b y2))), (10, (.d (.b y2))), (9, (.d (.i .i64 p1))), (5, (.d (.b y1))), (8, (.d (.b y1))), (7, (.d (.i .i64 p0))), (4, (.d (.i .i64 0))), (0, (.d (.i .i64 p0))), (1, (.d (.i .i64 p1)))], []⟩) (by kernel_rfl) ?_
  refine nil_in ?_
  refine next_in ?_
  refine cond_step h (by kernel_rfl) ?_ ?_
  · clear h; intro h
    refine seq_in ?_
    refine seq_in ?_
    refine ops_in ?_
    refine sts_ok 1 (s' := ⟨[(12, (.d (.b y2))), (11, (.d (.b y1))), (6, (.d (.b y2))), (10, (.d (.b y2))), (9, (.d (.i .i64 p1))), (5, (.d (.b y1))), (8, (.d (.b y1))), (7, (.d (.i .i64 p0))), (4, (.d (.i .i64 0))), (0, (.d (.i .i64 p0))), (1, (.d (.i .i64 p1)))], []⟩) (by kernel_rfl) ?_
    refine nil_in ?_
    refine next_in ?_
    refine cond_step h (by kernel_rfl) ?_ ?_
    · clear h; intro h
      refine seq_in ?_
      refine ops_in ?_
      refine sts_ok 1 (s' := ⟨[(4, (.d (.i .i64 0))), (12, (.d (.b y2))), (11, (.d (.b y1))), (6, (.d (.b y2))), (10, (.d (.b y2))), (9, (.d (.i .i64 p1))), (5, (.d (.b y1))), (8, (.d (.b y1))), (7, (.d (.i .i64 p0))), (4, (.d (.i .i64 0))), (0, (.d (.i .i64 p0))), (1, (.d (.i .i64 p1)))], []⟩) (by kernel_rfl) ?_
      refine nil_in ?_
      refine next_in ?_
      refine ret_in ?_
      refine thenK_ret ?_
      refine thenK_ret ?_
      have h := Option.some.inj h; subst h
      exact ret1_step (v := (.d (.i .i64 0))) (by kernel_rfl) (by kernel_rfl) (by kernel_rfl)
    · clear h; intro h
      refine skip_in ?_
      refine next_in ?_
      refine seq_in ?_
      refine ops_in ?_
      refine sts_ok 1 (s' := ⟨[(4, (.d (.i .i64 (-1)))), (12, (.d (.b y2))), (11, (.d (.b y1))), (6, (.d (.b y2))), (10, (.d (.b y2))), (9, (.d (.i .i64 p1))), (5, (.d (.b y1))), (8, (.d (.b y1))), (7, (.d (.i .i64 p0))), (4, (.d (.i .i64 0))), (0, (.d (.i .i64 p0))), (1, (.d (.i .i64 p1)))], []⟩) (by kernel_rfl) ?_
      refine nil_in ?_
      refine next_in ?_
      refine ret_in ?_
      refine thenK_ret ?_
      have h := Option.some.inj h; subst h
      exact ret1_step (v := (.d (.i .i64 (-1)))) (by kernel_rfl) (by kernel_rfl) (by kernel_rfl)
  · clear h; intro h
    refine skip_in ?_
    refine next_in ?_
    refine seq_in ?_
    refine seq_in ?_
    refine ops_in ?_
    refine sts_ok 1 (s' := ⟨[(13, (.d (.b y2))), (11, (.d (.b y1))), (6, (.d (.b y2))), (10, (.d (.b y2))), (9, (.d (.i .i64 p1))), (5, (.d (.b y1))), (8, (.d (.b y1))), (7, (.d (.i .i64 p0))), (4, (.d (.i .i64 0))), (0, (.d (.i .i64 p0))), (1, (.d (.i .i64 p1)))], []⟩) (by kernel_rfl) ?_
    refine nil_in ?_
    refine next_in ?_
    refine cond_step h (by kernel_rfl) ?_ ?_
    · clear h; intro h
      refine seq_in ?_
      refine ops_in ?_
      refine sts_ok 1 (s' := ⟨[(4, (.d (.i .i64 1))), (13, (.d (.b y2))), (11, (.d (.b y1))), (6, (.d (.b y2))), (10, (.d (.b y2))), (9, (.d (.i .i64 p1))), (5, (.d (.b y1))), (8, (.d (.b y1))), (7, (.d (.i .i64 p0))), (4, (.d (.i .i64 0))), (0, (.d (.i .i64 p0))), (1, (.d (.i .i64 p1)))], []⟩) (by kernel_rfl) ?_
      refine nil_in ?_
      refine next_in ?_
      refine ret_in ?_
      refine thenK_ret ?_
      have h := Option.some.inj h; subst h
      exact ret1_step (v := (.d (.i .i64 1))) (by kernel_rfl) (by kernel_rfl) (by kernel_rfl)
    · clear h; intro h
      refine skip_in ?_
      refine next_in ?_
      refine seq_in ?_
      refine seq_in ?_
      refine ops_in ?_
      refine sts_ok 3 (s' := ⟨[(16, (.d (.b (decide (p0 < p1))))), (15, (.d (.i .i64 p1))), (14, (.d (.i .i64 p0))), (13, (.d (.b y2))), (11, (.d (.b y1))), (6, (.d (.b y2))), (10, (.d (.b y2))), (9, (.d (.i .i64 p1))), (5, (.d (.b y1))), (8, (.d (.b y1))), (7, (.d (.i .i64 p0))), (4, (.d (.i .i64 0))), (0, (.d (.i .i64 p0))), (1, (.d (.i .i64 p1)))], []⟩) (by kernel_rfl) ?_
      refine nil_in ?_
      refine next_in ?_
      refine cond_step h (by kernel_rfl) ?_ ?_
      · clear h; intro h
        refine seq_in ?_
        refine ops_in ?_
        refine sts_ok 1 (s' := ⟨[(4, (.d (.i .i64 (-1)))), (16, (.d (.b (decide (p0 < p1))))), (15, (.d (.i .i64 p1))), (14, (.d (.i .i64 p0))), (13, (.d (.b y2))), (11, (.d (.b y1))), (6, (.d (.b y2))), (10, (.d (.b y2))), (9, (.d (.i .i64 p1))), (5, (.d (.b y1))), (8, (.d (.b y1))), (7, (.d (.i .i64 p0))), (4, (.d (.i .i64 0))), (0, (.d (.i .i64 p0))), (1, (.d (.i .i64 p1)))], []⟩) (by kernel_rfl) ?_
        refine nil_in ?_
        refine next_in ?_
        refine ret_in ?_
        refine thenK_ret ?_
        have h := Option.some.inj h; subst h
        exact ret1_step (v := (.d (.i .i64 (-1)))) (by kernel_rfl) (by kernel_rfl) (by kernel_rfl)
      · clear h; intro h
        refine skip_in ?_
        refine next_in ?_
        refine seq_in ?_
        refine seq_in ?_
        refine ops_in ?_
        refine sts_ok 3 (s' := ⟨[(19, (.d (.b (decide (p1 < p0))))), (18, (.d (.i .i64 p1))), (17, (.d (.i .i64 p0))), (16, (.d (.b (decide (p0 < p1))))), (15, (.d (.i .i64 p1))), (14, (.d (.i .i64 p0))), (13, (.d (.b y2))), (11, (.d (.b y1))), (6, (.d (.b y2))), (10, (.d (.b y2))), (9, (.d (.i .i64 p1))), (5, (.d (.b y1))), (8, (.d (.b y1))), (7, (.d (.i .i64 p0))), (4, (.d (.i .i64 0))), (0, (.d (.i .i64 p0))), (1, (.d (.i .i64 p1)))], []⟩) (by kernel_rfl) ?_
        refine nil_in ?_
        refine next_in ?_
        refine cond_step h (by kernel_rfl) ?_ ?_
        · clear h; intro h
          refine seq_in ?_
          refine ops_in ?_
          refine sts_ok 1 (s' := ⟨[(4, (.d (.i .i64 1))), (19, (.d (.b (decide (p1 < p0))))), (18, (.d (.i .i64 p1))), (17, (.d (.i .i64 p0))), (16, (.d (.b (decide (p0 < p1))))), (15, (.d (.i .i64 p1))), (14, (.d (.i .i64 p0))), (13, (.d (.b y2))), (11, (.d (.b y1))), (6, (.d (.b y2))), (10, (.d (.b y2))), (9, (.d (.i .i64 p1))), (5, (.d (.b y1))), (8, (.d (.b y1))), (7, (.d (.i .i64 p0))), (4, (.d (.i .i64 0))), (0, (.d (.i .i64 p0))), (1, (.d (.i .i64 p1)))], []⟩) (by kernel_rfl) ?_
          refine nil_in ?_
          refine next_in ?_
          refine ret_in ?_
          refine thenK_ret ?_
          have h := Option.some.inj h; subst h
          exact ret1_step (v := (.d (.i .i64 1))) (by kernel_rfl) (by kernel_rfl) (by kernel_rfl)
        · clear h; intro h
          refine skip_in ?_
          refine next_in ?_
          refine seq_in ?_
          refine ops_in ?_
          refine sts_ok 1 (s' := ⟨[(4, (.d (.i .i64 0))), (19, (.d (.b (decide (p1 < p0))))), (18, (.d (.i .i64 p1))), (17, (.d (.i .i64 p0))), (16, (.d (.b (decide (p0 < p1))))), (15, (.d (.i .i64 p1))), (14, (.d (.i .i64 p0))), (13, (.d (.b y2))), (11, (.d (.b y1))), (6, (.d (.b y2))), (10, (.d (.b y2))), (9, (.d (.i .i64 p1))), (5, (.d (.b y1))), (8, (.d (.b y1))), (7, (.d (.i .i64 p0))), (4, (.d (.i .i64 0))), (0, (.d (.i .i64 p0))), (1, (.d (.i .i64 p1)))], []⟩) (by kernel_rfl) ?_
          refine nil_in ?_
          refine next_in ?_
          refine ret_in ?_
          have h := Option.some.inj h; subst h
          exact ret1_step (v := (.d (.i .i64 0))) (by kernel_rfl) (by kernel_rfl) (by kernel_rfl)
theorem OK_gCmp_isNaN_string (p0 : (List UInt8)) : FOk Try.prog 221 [(.d (.s (bs p0)))] (fun y => (.d (.b y))) (gCmp_isNaN_string p0) := by
  intro r h
  rw [gCmp_isNaN_string] at h
  refine acalls_of_fn trgCmp_isNaN_string (Nat.le_of_ble_eq_true rfl) (by simp) ?_
  show avc Try.prog acgCmp_isNaN_string (qgCmp_isNaN_string _) ⟨[(0, (.d (.s (bs p0))))], []⟩
  delta acgCmp_isNaN_string
  refine seq_in ?_
  refine ops_in ?_
  refine sts_ok 1 (s' := ⟨[(2, (.d (.b false))), (0, (.d (.s (bs p0))))], []⟩) (by kernel_rfl) ?_
  refine nil_in ?_
  refine next_in ?_
  refine seq_in ?_
  refine ops_in ?_
  refine sts_ok 4 (s' := ⟨[(2, (.d (.b (!decide (p0 = p0))))), (5, (.d (.b (!decide (p0 = p0))))), (4, (.d (.s (bs p0)))), (3, (.d (.s (bs p0)))), (2, (.d (.b false))), (0, (.d (.s (bs p0))))], []⟩) (by kernel_rfl) ?_
  refine nil_in ?_
  refine next_in ?_
  refine ret_in ?_
  have h := Option.some.inj h; subst h
  exact ret1_step (v := (.d (.b (!decide (p0 = p0))))) (by kernel_rfl) (by kernel_rfl) (by kernel_rfl)
theorem OK_gCmp_Compare_string (p0 : (List UInt8)) (p1 : (List UInt8)) : FOk Try.prog 212 [(.d (.s (bs p0))), (.d (.s (bs p1)))] (fun y => (.d (.i .i64 y))) (gCmp_Compare_string p0 p1) := by
  intro r h
  rw [gCmp_Compare_string] at h
  refine acalls_of_fn trgCmp_Compare_string (Nat.le_of_ble_eq_true rfl) (by simp) ?_
  show avc Try.prog acgCmp_Compare_string (qgCmp_Compare_string _) ⟨[(0, (.d (.s (bs p0)))), (1, (.d (.s (bs p1))))], []⟩
  delta acgCmp_Compare_string
  refine seq_in ?_
  refine ops_in ?_
  refine sts_ok 1 (s' := ⟨[(4, (.d (.i .i64 0))), (0, (.d (.s (bs p0)))), (1, (.d (.s (bs p1))))], []⟩) (by kernel_rfl) ?_
  refine nil_in ?_
  refine next_in ?_
  refine seq_in ?_
  refine ops_in ?_
  refine sts_ok 1 (s' := ⟨[(7, (.d (.s (bs p0)))), (4, (.d (.i .i64 0))), (0, (.d (.s (bs p0)))), (1, (.d (.s (bs p1))))], []⟩) (by kernel_rfl) ?_
  refine call_step (m := gCmp_isNaN_string p0) (args := [(.d (.s (bs p0)))]) (v' := (fun y => (.d (.b y)))) h (OK_gCmp_isNaN_string p0) (by kernel_rfl) (by kernel_rfl) (fun _ => rfl) ?_
  clear h; intro y1 h
  refine sts_ok 1 (s' := ⟨[(5, (.d (.b y1))), (8, (.d (.b y1))), (7, (.d (.s (bs p0)))), (4, (.d (.i .i64 0))), (0, (.d (.s (bs p0)))), (1, (.d (.s (bs p1))))], []⟩) (by kernel_rfl) ?_
  refine nil_in ?_
  refine next_in ?_
  refine seq_in ?_
  refine ops_in ?_
  refine sts_ok 1 (s' := ⟨[(9, (.d (.s (bs p1)))), (5, (.d (.b y1))), (8, (.d (.b y1))), (7, (.d (.s (bs p0)))), (4, (.d (.i .i64 0))), (0, (.d (.s (bs p0)))), (1, (.d (.s (bs p1))))], []⟩) (by kernel_rfl) ?_
  refine call_step (m := gCmp_isNaN_string p1) (args := [(.d (.s (bs p1)))]) (v' := (fun y => (.d (.b y)))) h (OK_gCmp_isNaN_string p1) (by kernel_rfl) (by kernel_rfl) (fun _ => rfl) ?_
  clear h; intro y2 h
  refine sts_ok 1 (s' := ⟨[(6, (.d (.b y2))), (10, (.d (.b y2))), (9, (.d (.s (bs p1)))), (5, (.d (.b y1))), (8, (.d (.b y1))), (7, (.d (.s (bs p0)))), (4, (.d (.i .i64 0))), (0, (.d (.s (bs p0)))), (1, (.d (.s (bs p1))))], []⟩) (by kernel_rfl) ?_
  refine nil_in ?_
  refine next_in ?_
  refine seq_in ?_
  refine seq_in ?_
  refine ops_in ?_
  refine sts_ok 1 (s' := ⟨[(11, (.d (.b y1))), (6, (.d (.b y2))), (10, (.d (.b y2))), (9, (.d (.s (bs p1)))), (5, (.d (.b y1))), (8, (.d (.b y1))), (7, (.d (.s (bs p0)))), (4, (.d (.i .i64 0))), (0, (.d (.s (bs p0)))), (1, (.d (.s (bs p1))))], []⟩) (by kernel_rfl) ?_
  refine nil_in ?_
  refine next_in ?_
  refine cond_step h (by kernel_rfl) ?_ ?_
  · clear h; intro h
    refine seq_in ?_
    refine seq_in ?_
    refine ops_in ?_
    refine sts_ok 1 (s' := ⟨[(12, (.d (.b y2))), (11, (.d (.b y1))), (6, (.d (.b y2))), (10, (.d (.b y2))), (9, (.d (.s (bs p1)))), (5, (.d (.b y1))), (8, (.d (.b y1))), (7, (.d (.s (bs p0)))), (4, (.d (.i .i64 0))), (0, (.d (.s (bs p0)))), (1, (.d (.s (bs p1))))], []⟩) (by kernel_rfl) ?_
    refine nil_in ?_
    refine next_in ?_
    refine cond_step h (by kernel_rfl) ?_ ?_
    · clear h; intro h
      refine seq_in ?_
      refine ops_in ?_
      refine sts_ok 1 (s' := ⟨[(4, (.d (.i .i64 0))), (12, (.d (.b y2))), (11, (.d (.b y1))), (6, (.d (.b y2))), (10, (.d (.b y2))), (9, (.d (.s (bs p1)))), (5, (.d (.b y1))), (8, (.d (.b y1))), (7, (.d (.s (bs p0)))), (4, (.d (.i .i64 0))), (0, (.d (.s (bs p0)))), (1, (.d (.s (bs p1))))], []⟩) (by kernel_rfl) ?_
      refine nil_in ?_
      refine next_in ?_
      refine ret_in ?_
      refine thenK_ret ?_
      refine thenK_ret ?_
      have h := Option.some.inj h; subst h
      exact ret1_step (v := (.d (.i .i64 0))) (by kernel_rfl) (by kernel_rfl) (by kernel_rfl)
    · clear h; intro h
      refine skip_in ?_
      refine next_in ?_
      refine seq_in ?_
      refine ops_in ?_
      refine sts_ok 1 (s' := ⟨[(4, (.d (.i .i64 (-1)))), (12, (.d (.b y2))), (11, (.d (.b y1))), (6, (.d (.b y2))), (10, (.d (.b y2))), (9, (.d (.s (bs p1)))), (5, (.d (.b y1))), (8, (.d (.b y1))), (7, (.d (.s (bs p0)))), (4, (.d (.i .i64 0))), (0, (.d (.s (bs p0)))), (1, (.d (.s (bs p1))))], []⟩) (by kernel_rfl) ?_
      refine nil_in ?_
      refine next_in ?_
      refine ret_in ?_
      refine thenK_ret ?_
      have h := Option.some.inj h; subst h
      exact ret1_step (v := (.d (.i .i64 (-1)))) (by kernel_rfl) (by kernel_rfl) (by kernel_rfl)
  · clear h; intro h
    refine skip_in ?_
    refine next_in ?_
    refine seq_in ?_
    refine seq_in ?_
    refine ops_in ?_
    refine sts_ok 1 (s' := ⟨[(13, (.d (.b y2))), (11, (.d (.b y1))), (6, (.d (.b y2))), (10, (.d (.b y2))), (9, (.d (.s (bs p1)))), (5, (.d (.b y1))), (8, (.d (.b y1))), (7, (.d (.s (bs p0)))), (4, (.d (.i .i64 0))), (0, (.d (.s (bs p0)))), (1, (.d (.s (bs p1))))], []⟩) (by kernel_rfl) ?_
    refine nil_in ?_
    refine next_in ?_
    refine cond_step h (by kernel_rfl) ?_ ?_
    · clear h; intro h
      refine seq_in ?_
      refine ops_in ?_
      refine sts_ok 1 (s' := ⟨[(4, (.d (.i .i64 1))), (13, (.d (.b y2))), (11, (.d (.b y1))), (6, (.d (.b y2))), (10, (.d (.b y2))), (9, (.d (.s (bs p1)))), (5, (.d (.b y1))), (8, (.d (.b y1))), (7, (.d (.s (bs p0)))), (4, (.d (.i .i64 0))), (0, (.d (.s (bs p0)))), (1, (.d (.s (bs p1))))], []⟩) (by kernel_rfl) ?_
      refine nil_in ?_
      refine next_in ?_
      refine ret_in ?_
      refine thenK_ret ?_
      have h := Option.some.inj h; subst h
      exact ret1_step (v := (.d (.i .i64 1))) (by kernel_rfl) (by kernel_rfl) (by kernel_rfl)
    · clear h; intro h
      refine skip_in ?_
      refine next_in ?_
      refine seq_in ?_
      refine seq_in ?_
      refine ops_in ?_
      refine sts_ok 3 (s' := ⟨[(16, (.d (.b (Op.bytesLess p0 p1)))), (15, (.d (.s (bs p1)))), (14, (.d (.s (bs p0)))), (13, (.d (.b y2))), (11, (.d (.b y1))), (6, (.d (.b y2))), (10, (.d (.b y2))), (9, (.d (.s (bs p1)))), (5, (.d (.b y1))), (8, (.d (.b y1))), (7, (.d (.s (bs p0)))), (4, (.d (.i .i64 0))), (0, (.d (.s (bs p0)))), (1, (.d (.s (bs p1))))], []⟩) (by kernel_rfl) ?_
      refine nil_in ?_
      refine next_in ?_
      refine cond_step h (by kernel_rfl) ?_ ?_
      · clear h; intro h
        refine seq_in ?_
        refine ops_in ?_
        refine sts_ok 1 (s' := ⟨[(4, (.d (.i .i64 (-1)))), (16, (.d (.b (Op.bytesLess p0 p1)))), (15, (.d (.s (bs p1)))), (14, (.d (.s (bs p0)))), (13, (.d (.b y2))), (11, (.d (.b y1))), (6, (.d (.b y2))), (10, (.d (.b y2))), (9, (.d (.s (bs p1)))), (5, (.d (.b y1))), (8, (.d (.b y1))), (7, (.d (.s (bs p0)))), (4, (.d (.i .i64 0))), (0, (.d (.s (bs p0)))), (1, (.d (.s (bs p1))))], []⟩) (by kernel_rfl) ?_
        refine nil_in ?_
        refine next_in ?_
        refine ret_in ?_
        refine thenK_ret ?_
        have h := Option.some.inj h; subst h
        exact ret1_step (v := (.d (.i .i64 (-1)))) (by kernel_rfl) (by kernel_rfl) (by kernel_rfl)
      · clear h; intro h
        refine skip_in ?_
        refine next_in ?_
        refine seq_in ?_
        refine seq_in ?_
        refine ops_in ?_
        refine sts_ok 3 (s' := ⟨[(19, (.d (.b (!(Op.bytesLess p0 p1 || decide (p0 = p1)))))), (18, (.d (.s (bs p1)))), (17, (.d (.s (bs p0)))), (16, (.d (.b (Op.bytesLess p0 p1)))), (15, (.d (.s (bs p1)))), (14, (.d (.s (bs p0)))), (13, (.d (.b y2))), (11, (.d (.b y1))), (6, (.d (.b y2))), (10, (.d (.b y2))), (9, (.d (.s (bs p1)))), (5, (.d (.b y1))), (8, (.d (.b y1))), (7, (.d (.s (bs p0)))), (4, (.d (.i .i64 0))), (0, (.d (.s (bs p0)))), (1, (.d (.s (bs p1))))], []⟩) (by kernel_rfl) ?_
        refine nil_in ?_
        refine next_in ?_
        refine cond_step h (by kernel_rfl) ?_ ?_
        · clear h; intro h
          refine seq_in ?_
          refine ops_in ?_
          refine sts_ok 1 (s' := ⟨[(4, (.d (.i .i64 1))), (19, (.d (.b (!(Op.bytesLess p0 p1 || decide (p0 = p1)))))), (18, (.d (.s (bs p1)))), (17, (.d (.s (bs p0)))), (16, (.d (.b (Op.bytesLess p0 p1)))), (15, (.d (.s (bs p1)))), (14, (.d (.s (bs p0)))), (13, (.d (.b y2))), (11, (.d (.b y1))), (6, (.d (.b y2))), (10, (.d (.b y2))), (9, (.d (.s (bs p1)))), (5, (.d (.b y1))), (8, (.d (.b y1))), (7, (.d (.s (bs p0)))), (4, (.d (.i .i64 0))), (0, (.d (.s (bs p0)))), (1, (.d (.s (bs p1))))], []⟩) (by kernel_rfl) ?_
          refine nil_in ?_
          refine next_in ?_
          refine ret_in ?_
          refine thenK_ret ?_
          have h := Option.some.inj h; subst h
          exact ret1_step (v := (.d (.i .i64 1))) (by kernel_rfl) (by kernel_rfl) (by kernel_rfl)
        · clear h; intro h
          refine skip_in ?_
          refine next_in ?_
          refine seq_in ?_
          refine ops_in ?_
          refine sts_ok 1 (s' := ⟨[(4, (.d (.i .i64 0))), (19, (.d (.b (!(Op.bytesLess p0 p1 || decide (p0 = p1)))))), (18, (.d (.s (bs p1)))), (17, (.d (.s (bs p0)))), (16, (.d (.b (Op.bytesLess p0 p1)))), (15, (.d (.s (bs p1)))), (14, (.d (.s (bs p0)))), (13, (.d (.b y2))), (11, (.d (.b y1))), (6, (.d (.b y2))), (10, (.d (.b y2))), (9, (.d (.s (bs p1)))), (5, (.d (.b y1))), (8, (.d (.b y1))), (7, (.d (.s (bs p0)))), (4, (.d (.i .i64 0))), (0, (.d (.s (bs p0)))), (1, (.d (.s (bs p1))))], []⟩) (by kernel_rfl) ?_
          refine nil_in ?_
          refine next_in ?_
          refine ret_in ?_
          have h := Option.some.inj h; subst h
          exact ret1_step (v := (.d (.i .i64 0))) (by kernel_rfl) (by kernel_rfl) (by kernel_rfl)
theorem OKs_gCmp_Or_int_L0 (p0 : (List Int)) : (∀ (x8 : Int) (r : Int), gCmp_Or_int_L0 p0 x8 = some r → avc Try.prog acgCmp_Or_int_L0 (qgCmp_Or_int_1 r) (stgCmp_Or_int_L0 p0 x8)) := by
  refine gCmp_Or_int_L0.partial_correctness p0 (fun x8 r => avc Try.prog acgCmp_Or_int_L0 (qgCmp_Or_int_1 r) (stgCmp_Or_int_L0 p0 x8)) ?_
  · intro F_gCmp_Or_int_L0 OK_gCmp_Or_int_L0 x8 r h
    delta acgCmp_Or_int_L0
    refine loop_unroll ?_
    refine seq_in ?_
    refine ops_in ?_
    refine sts_ok 1 (s' := ⟨(9, (.d (.b (decide (x8 < (p0.length : Int)))))) :: (stgCmp_Or_int_L0 p0 x8).env, (stgCmp_Or_int_L0 p0 x8).bx⟩) (by kernel_rfl) ?_
    refine nil_in ?_
    refine next_in ?_
    refine seq_in ?_
    refine cond_step h (by kernel_rfl) ?_ ?_
    · clear h; intro h
      refine skip_in ?_
      refine next_in ?_
      refine seq_in ?_
      refine block_in ?_
      refine seq_in ?_
      refine ops_in ?_
      refine v_step (m := idx p0 x8) (v' := fun y => (.rp [(.i .i64 y)])) h rfl rfl (fun y hy => vop_ia (l := p0) (f := cI) (g := cI) (k := .i64) hy (fun _ => rfl) (by kernel_rfl) (by kernel_rfl) (by kernel_rfl)) ?_
      clear h; intro y1 h
      refine sts_ok 2 (s' := ⟨(5, (.d (.i .i64 y1))) :: (11, (.d (.i .i64 y1))) :: (10, (.rp [(.i .i64 y1)])) :: (9, (.d (.b (decide (x8 < (p0.length : Int)))))) :: (stgCmp_Or_int_L0 p0 x8).env, (stgCmp_Or_int_L0 p0 x8).bx⟩) (by kernel_rfl) ?_
      refine nil_in ?_
      refine next_in ?_
      refine seq_in ?_
      refine ops_in ?_
      refine sts_ok 3 (s' := ⟨(14, (.d (.b (!decide (y1 = 0))))) :: (13, (.d (.i .i64 0))) :: (12, (.d (.i .i64 y1))) :: (5, (.d (.i .i64 y1))) :: (11, (.d (.i .i64 y1))) :: (10, (.rp [(.i .i64 y1)])) :: (9, (.d (.b (decide (x8 < (p0.length : Int)))))) :: (stgCmp_Or_int_L0 p0 x8).env, (stgCmp_Or_int_L0 p0 x8).bx⟩) (by kernel_rfl) ?_
      refine nil_in ?_
      refine next_in ?_
      refine cond_step h (by kernel_rfl) ?_ ?_
      · clear h; intro h
        refine seq_in ?_
        refine ops_in ?_
        refine sts_ok 2 (s' := ⟨(2, (.d (.i .i64 y1))) :: (15, (.d (.i .i64 y1))) :: (14, (.d (.b (!decide (y1 = 0))))) :: (13, (.d (.i .i64 0))) :: (12, (.d (.i .i64 y1))) :: (5, (.d (.i .i64 y1))) :: (11, (.d (.i .i64 y1))) :: (10, (.rp [(.i .i64 y1)])) :: (9, (.d (.b (decide (x8 < (p0.length : Int)))))) :: (stgCmp_Or_int_L0 p0 x8).env, (stgCmp_Or_int_L0 p0 x8).bx⟩) (by kernel_rfl) ?_
        refine nil_in ?_
        refine next_in ?_
        refine ret_in ?_
        refine blockK_ret ?_
        refine thenK_ret ?_
        refine thenK_ret ?_
        refine blockK_ret ?_
        refine thenK_ret ?_
        have h := Option.some.inj h; subst h
        exact ret1_step (v := (.d (.i .i64 y1))) (by kernel_rfl) (by kernel_rfl) (by kernel_rfl)
      · clear h; intro h
        refine skip_in ?_
        refine blockK_norm ?_
        refine next_in ?_
        refine ops_in ?_
        refine sts_ok 2 (s' := ⟨(8, (.d (.i .i64 (IntKind.wrap .i64 (x8 + 1))))) :: (16, (.d (.i .i64 (IntKind.wrap .i64 (x8 + 1))))) :: (14, (.d (.b (!decide (y1 = 0))))) :: (13, (.d (.i .i64 0))) :: (12, (.d (.i .i64 y1))) :: (5, (.d (.i .i64 y1))) :: (11, (.d (.i .i64 y1))) :: (10, (.rp [(.i .i64 y1)])) :: (9, (.d (.b (decide (x8 < (p0.length : Int)))))) :: (stgCmp_Or_int_L0 p0 x8).env, (stgCmp_Or_int_L0 p0 x8).bx⟩) (by kernel_rfl) ?_
        refine nil_in ?_
        exact loop_back (s' := stgCmp_Or_int_L0 p0 (IntKind.wrap .i64 (x8 + 1))) (wk_ren [] (by kernel_rfl) (er_cons (vr_same (by kernel_rfl) (by kernel_rfl)) (er_cons (vr_same (by kernel_rfl) (by kernel_rfl)) (er_cons (vr_same (by kernel_rfl) (by kernel_rfl)) (er_cons (vr_same (by kernel_rfl) (by kernel_rfl)) (er_nil))))) (br_nil)) (OK_gCmp_Or_int_L0 (IntKind.wrap .i64 (x8 + 1)) _ h)
    · clear h; intro h
      refine exit_in ?_
      refine thenK_exit ?_
      refine thenK_exit ?_
      refine blockK_here ?_
      refine next_in ?_
      refine seq_in ?_
      refine ops_in ?_
      refine sts_ok 2 (s' := ⟨(2, (.d (.i .i64 0))) :: (17, (.d (.i .i64 0))) :: (9, (.d (.b (decide (x8 < (p0.length : Int)))))) :: (stgCmp_Or_int_L0 p0 x8).env, (stgCmp_Or_int_L0 p0 x8).bx⟩) (by kernel_rfl) ?_
      refine nil_in ?_
      refine next_in ?_
      refine ret_in ?_
      have h := Option.some.inj h; subst h
      exact ret1_step (v := (.d (.i .i64 0))) (by kernel_rfl) (by kernel_rfl) (by kernel_rfl)
theorem OK_gCmp_Or_int_L0 (p0 : (List Int)) (x8 : Int) (r : Int) (h : gCmp_Or_int_L0 p0 x8 = some r) : avc Try.prog acgCmp_Or_int_L0 (qgCmp_Or_int_1 r) (stgCmp_Or_int_L0 p0 x8) := (OKs_gCmp_Or_int_L0 p0) x8 r h
theorem OK_gCmp_Or_int (p0 : (List Int)) : FOk Try.prog 210 [(.d (.sl 1 (p0.map cI)))] (fun y => (.d (.i .i64 y))) (gCmp_Or_int p0) := by
  intro r h
  rw [gCmp_Or_int] at h
  refine acalls_of_fn trgCmp_Or_int (Nat.le_of_ble_eq_true rfl) (by simp) ?_
  show avc Try.prog acgCmp_Or_int (qgCmp_Or_int _) ⟨[(0, (.d (.sl 1 (p0.map cI))))], []⟩
  delta acgCmp_Or_int
  refine seq_in ?_
  refine ops_in ?_
  refine sts_ok 1 (s' := ⟨[(2, (.d (.i .i64 0))), (0, (.d (.sl 1 (p0.map cI))))], []⟩) (by kernel_rfl) ?_
  refine nil_in ?_
  refine next_in ?_
  refine seq_in ?_
  refine ops_in ?_
  refine sts_ok 1 (s' := ⟨[(3, (.d (.i .i64 0))), (2, (.d (.i .i64 0))), (0, (.d (.sl 1 (p0.map cI))))], []⟩) (by kernel_rfl) ?_
  refine nil_in ?_
  refine next_in ?_
  refine seq_in ?_
  refine seq_in ?_
  refine ops_in ?_
  refine sts_ok 1 (s' := ⟨[(6, (.d (.sl 1 (p0.map cI)))), (3, (.d (.i .i64 0))), (2, (.d (.i .i64 0))), (0, (.d (.sl 1 (p0.map cI))))], []⟩) (by kernel_rfl) ?_
  refine p_step (v' := (.d (.i .i64 (p0.length : Int)))) rfl rfl (vop_len (sz := 1) (l := p0) (f := cI) (by kernel_rfl) (by kernel_rfl)) ?_
  refine sts_ok 1 (s' := ⟨[(8, (.d (.i .i64 0))), (7, (.d (.i .i64 (p0.length : Int)))), (6, (.d (.sl 1 (p0.map cI)))), (3, (.d (.i .i64 0))), (2, (.d (.i .i64 0))), (0, (.d (.sl 1 (p0.map cI))))], []⟩) (by kernel_rfl) ?_
  refine nil_in ?_
  refine next_in ?_
  refine block_in ?_
  exact loop_go (s' := stgCmp_Or_int_L0 p0 0) (wk_ren [] (by kernel_rfl) (er_cons (vr_same (by kernel_rfl) (by kernel_rfl)) (er_cons (vr_same (by kernel_rfl) (by kernel_rfl)) (er_cons (vr_same (by kernel_rfl) (by kernel_rfl)) (er_cons (vr_same (by kernel_rfl) (by kernel_rfl)) (er_nil))))) (br_nil)) (OK_gCmp_Or_int_L0 p0 0 _ h)
theorem OK_iOrder (p0 : GValue) (p1 : GValue) : FOk Try.prog 186 [(vGValue p0), (vGValue p1)] (fun y => (.d (.i .i64 y))) (iOrder p0 p1) := by
  intro r h
  rw [iOrder] at h
  refine acalls_of_fn triOrder (Nat.le_of_ble_eq_true rfl) (by simp) ?_
  show avc Try.prog aciOrder (qiOrder _) ⟨[(0, (vGValue p0)), (1, (vGValue p1))], []⟩
  delta aciOrder
  refine seq_in ?_
  refine ops_in ?_
  refine sts_ok 3 (s' := ⟨[(4, (.d (.i .i64 0))), (3, (.ptr 3 0)), (2, (.ptr 2 0)), (0, (vGValue p0)), (1, (vGValue p1))], [(3, [(.d (.i .i64 p1.kind)), (.d (.i .i64 p1.num)), (.d (.s (bs p1.text)))]), (2, [(.d (.i .i64 p0.kind)), (.d (.i .i64 p0.num)), (.d (.s (bs p0.text)))])]⟩) (by kernel_rfl) ?_
  refine nil_in ?_
  refine next_in ?_
  refine seq_in ?_
  refine dops_in ?_
  refine dsts_ok 4 (s' := ⟨[(8, (.d (.i .i64 p1.kind))), (7, (.ptr 3 0)), (6, (.d (.i .i64 p0.kind))), (5, (.ptr 2 0)), (4, (.d (.i .i64 0))), (3, (.ptr 3 0)), (2, (.ptr 2 0)), (0, (vGValue p0)), (1, (vGValue p1))], [(3, [(.d (.i .i64 p1.kind)), (.d (.i .i64 p1.num)), (.d (.s (bs p1.text)))]), (2, [(.d (.i .i64 p0.kind)), (.d (.i .i64 p0.num)), (.d (.s (bs p0.text)))])]⟩) (by kernel_rfl) ?_
  refine dcall_step (m := gCmp_Compare_int p0.kind p1.kind) (args := [(.d (.i .i64 p0.kind)), (.d (.i .i64 p1.kind))]) (v' := (fun y => (.d (.i .i64 y)))) h (OK_gCmp_Compare_int p0.kind p1.kind) (by kernel_rfl) (by kernel_rfl) (fun _ => rfl) ?_
  clear h; intro y1 h
  refine dsts_ok 4 (s' := ⟨[(13, (.d (.i .i64 p1.num))), (12, (.ptr 3 1)), (11, (.d (.i .i64 p0.num))), (10, (.ptr 2 1)), (9, (.d (.i .i64 y1))), (8, (.d (.i .i64 p1.kind))), (7, (.ptr 3 0)), (6, (.d (.i .i64 p0.kind))), (5, (.ptr 2 0)), (4, (.d (.i .i64 0))), (3, (.ptr 3 0)), (2, (.ptr 2 0)), (0, (vGValue p0)), (1, (vGValue p1))], [(3, [(.d (.i .i64 p1.kind)), (.d (.i .i64 p1.num)), (.d (.s (bs p1.text)))]), (2, [(.d (.i .i64 p0.kind)), (.d (.i .i64 p0.num)), (.d (.s (bs p0.text)))])]⟩) (by kernel_rfl) ?_
  refine dcall_step (m := gCmp_Compare_int p0.num p1.num) (args := [(.d (.i .i64 p0.num)), (.d (.i .i64 p1.num))]) (v' := (fun y => (.d (.i .i64 y)))) h (OK_gCmp_Compare_int p0.num p1.num) (by kernel_rfl) (by kernel_rfl) (fun _ => rfl) ?_
  clear h; intro y2 h
  refine dsts_ok 4 (s' := ⟨[(18, (.d (.s (bs p1.text)))), (17, (.ptr 3 2)), (16, (.d (.s (bs p0.text)))), (15, (.ptr 2 2)), (14, (.d (.i .i64 y2))), (13, (.d (.i .i64 p1.num))), (12, (.ptr 3 1)), (11, (.d (.i .i64 p0.num))), (10, (.ptr 2 1)), (9, (.d (.i .i64 y1))), (8, (.d (.i .i64 p1.kind))), (7, (.ptr 3 0)), (6, (.d (.i .i64 p0.kind))), (5, (.ptr 2 0)), (4, (.d (.i .i64 0))), (3, (.ptr 3 0)), (2, (.ptr 2 0)), (0, (vGValue p0)), (1, (vGValue p1))], [(3, [(.d (.i .i64 p1.kind)), (.d (.i .i64 p1.num)), (.d (.s (bs p1.text)))]), (2, [(.d (.i .i64 p0.kind)), (.d (.i .i64 p0.num)), (.d (.s (bs p0.text)))])]⟩) (by kernel_rfl) ?_
  refine dcall_step (m := gCmp_Compare_string p0.text p1.text) (args := [(.d (.s (bs p0.text))), (.d (.s (bs p1.text)))]) (v' := (fun y => (.d (.i .i64 y)))) h (OK_gCmp_Compare_string p0.text p1.text) (by kernel_rfl) (by kernel_rfl) (fun _ => rfl) ?_
  clear h; intro y3 h
  refine dbsl_step (l := ([y1, y2, y3] : List Int)) (f := cI) (g := cI) (by kernel_rfl) (fun _ => rfl) ?_
  refine dcall_step (m := gCmp_Or_int ([y1, y2, y3] : List Int)) (args := [(.d (.sl 1 (([y1, y2, y3] : List Int).map cI)))]) (v' := (fun y => (.d (.i .i64 y)))) h (OK_gCmp_Or_int ([y1, y2, y3] : List Int)) (by kernel_rfl) (by kernel_rfl) (fun _ => rfl) ?_
  clear h; intro y4 h
  refine dsts_ok 1 (s' := ⟨[(4, (.d (.i .i64 y4))), (21, (.d (.i .i64 y4))), (20, (.osl 20 3 1 (([y1, y2, y3] : List Int).map cI))), (19, (.d (.i .i64 y3))), (18, (.d (.s (bs p1.text)))), (17, (.ptr 3 2)), (16, (.d (.s (bs p0.text)))), (15, (.ptr 2 2)), (14, (.d (.i .i64 y2))), (13, (.d (.i .i64 p1.num))), (12, (.ptr 3 1)), (11, (.d (.i .i64 p0.num))), (10, (.ptr 2 1)), (9, (.d (.i .i64 y1))), (8, (.d (.i .i64 p1.kind))), (7, (.ptr 3 0)), (6, (.d (.i .i64 p0.kind))), (5, (.ptr 2 0)), (4, (.d (.i .i64 0))), (3, (.ptr 3 0)), (2, (.ptr 2 0)), (0, (vGValue p0)), (1, (vGValue p1))], [(3, [(.d (.i .i64 p1.kind)), (.d (.i .i64 p1.num)), (.d (.s (bs p1.text)))]), (2, [(.d (.i .i64 p0.kind)), (.d (.i .i64 p0.num)), (.d (.s (bs p0.text)))])]⟩) (by kernel_rfl) ?_
  refine dnil_in (by kernel_rfl) (by kernel_rfl) ?_
  refine next_in ?_
  refine ret_in ?_
  have h := Option.some.inj h; subst h
  exact ret1_step (v := (.d (.i .i64 y4))) (by kernel_rfl) (by kernel_rfl) (by kernel_rfl)
theorem OK_iCompared (p0 : Int) (p1 : GValue) (p2 : GValue) : FOk Try.prog 136 [(.d (.i .i64 p0)), (vGValue p1), (vGValue p2)] (fun y => (vGValue y)) (iCompared p0 p1 p2) := by
  intro r h
  rw [iCompared] at h
  refine acalls_of_fn triCompared (Nat.le_of_ble_eq_true rfl) (by simp) ?_
  show avc Try.prog aciCompared (qiCompared _) ⟨[(0, (.d (.i .i64 p0))), (1, (vGValue p1)), (2, (vGValue p2))], []⟩
  delta aciCompared
  refine seq_in ?_
  refine ops_in ?_
  refine sts_ok 3 (s' := ⟨[(6, (.ptr 6 0)), (5, (.ptr 5 0)), (4, (.ptr 4 0)), (0, (.d (.i .i64 p0))), (1, (vGValue p1)), (2, (vGValue p2))], [(6, [(.d (.i .i64 0)), (.d (.i .i64 0)), (.d (.s (bs [])))]), (5, [(.d (.i .i64 p2.kind)), (.d (.i .i64 p2.num)), (.d (.s (bs p2.text)))]), (4, [(.d (.i .i64 p1.kind)), (.d (.i .i64 p1.num)), (.d (.s (bs p1.text)))])]⟩) (by kernel_rfl) ?_
  refine nil_in ?_
  refine next_in ?_
  refine seq_in ?_
  refine ops_in ?_
  refine sts_ok 2 (s' := ⟨[(9, (vGValue p2)), (8, (vGValue p1)), (6, (.ptr 6 0)), (5, (.ptr 5 0)), (4, (.ptr 4 0)), (0, (.d (.i .i64 p0))), (1, (vGValue p1)), (2, (vGValue p2))], [(6, [(.d (.i .i64 0)), (.d (.i .i64 0)), (.d (.s (bs [])))]), (5, [(.d (.i .i64 p2.kind)), (.d (.i .i64 p2.num)), (.d (.s (bs p2.text)))]), (4, [(.d (.i .i64 p1.kind)), (.d (.i .i64 p1.num)), (.d (.s (bs p1.text)))])]⟩) (by kernel_rfl) ?_
  refine call_step (m := iOrder p1 p2) (args := [(vGValue p1), (vGValue p2)]) (v' := (fun y => (.d (.i .i64 y)))) h (OK_iOrder p1 p2) (by kernel_rfl) (by kernel_rfl) (fun _ => rfl) ?_
  clear h; intro y1 h
  refine sts_ok 1 (s' := ⟨[(7, (.d (.i .i64 y1))), (10, (.d (.i .i64 y1))), (9, (vGValue p2)), (8, (vGValue p1)), (6, (.ptr 6 0)), (5, (.ptr 5 0)), (4, (.ptr 4 0)), (0, (.d (.i .i64 p0))), (1, (vGValue p1)), (2, (vGValue p2))], [(6, [(.d (.i .i64 0)), (.d (.i .i64 0)), (.d (.s (bs [])))]), (5, [(.d (.i .i64 p2.kind)), (.d (.i .i64 p2.num)), (.d (.s (bs p2.text)))]), (4, [(.d (.i .i64 p1.kind)), (.d (.i .i64 p1.num)), (.d (.s (bs p1.text)))])]⟩) (by kernel_rfl) ?_
  refine nil_in ?_
  refine next_in ?_
  refine seq_in ?_
  refine seq_in ?_
  refine ops_in ?_
  refine sts_ok 1 (s' := ⟨[(11, (.d (.i .i64 p0))), (7, (.d (.i .i64 y1))), (10, (.d (.i .i64 y1))), (9, (vGValue p2)), (8, (vGValue p1)), (6, (.ptr 6 0)), (5, (.ptr 5 0)), (4, (.ptr 4 0)), (0, (.d (.i .i64 p0))), (1, (vGValue p1)), (2, (vGValue p2))], [(6, [(.d (.i .i64 0)), (.d (.i .i64 0)), (.d (.s (bs [])))]), (5, [(.d (.i .i64 p2.kind)), (.d (.i .i64 p2.num)), (.d (.s (bs p2.text)))]), (4, [(.d (.i .i64 p1.kind)), (.d (.i .i64 p1.num)), (.d (.s (bs p1.text)))])]⟩) (by kernel_rfl) ?_
  refine nil_in ?_
  refine next_in ?_
  refine block_in ?_
  refine seq_in ?_
  refine ops_in ?_
  refine sts_ok 2 (s' := ⟨[(12, (.d (.b (decide (p0 = 3))))), (13, (.d (.b (decide (p0 = 3))))), (11, (.d (.i .i64 p0))), (7, (.d (.i .i64 y1))), (10, (.d (.i .i64 y1))), (9, (vGValue p2)), (8, (vGValue p1)), (6, (.ptr 6 0)), (5, (.ptr 5 0)), (4, (.ptr 4 0)), (0, (.d (.i .i64 p0))), (1, (vGValue p1)), (2, (vGValue p2))], [(6, [(.d (.i .i64 0)), (.d (.i .i64 0)), (.d (.s (bs [])))]), (5, [(.d (.i .i64 p2.kind)), (.d (.i .i64 p2.num)), (.d (.s (bs p2.text)))]), (4, [(.d (.i .i64 p1.kind)), (.d (.i .i64 p1.num)), (.d (.s (bs p1.text)))])]⟩) (by kernel_rfl) ?_
  refine nil_in ?_
  refine next_in ?_
  refine cond_step h (by kernel_rfl) ?_ ?_
  · clear h; intro h
    refine seq_in ?_
    refine ops_in ?_
    refine sts_ok 2 (s' := ⟨[(15, (.d (.b (decide (y1 = 0))))), (14, (.d (.i .i64 y1))), (12, (.d (.b (decide (p0 = 3))))), (13, (.d (.b (decide (p0 = 3))))), (11, (.d (.i .i64 p0))), (7, (.d (.i .i64 y1))), (10, (.d (.i .i64 y1))), (9, (vGValue p2)), (8, (vGValue p1)), (6, (.ptr 6 0)), (5, (.ptr 5 0)), (4, (.ptr 4 0)), (0, (.d (.i .i64 p0))), (1, (vGValue p1)), (2, (vGValue p2))], [(6, [(.d (.i .i64 0)), (.d (.i .i64 0)), (.d (.s (bs [])))]), (5, [(.d (.i .i64 p2.kind)), (.d (.i .i64 p2.num)), (.d (.s (bs p2.text)))]), (4, [(.d (.i .i64 p1.kind)), (.d (.i .i64 p1.num)), (.d (.s (bs p1.text)))])]⟩) (by kernel_rfl) ?_
    refine call_step (m := iBoolValue (decide (y1 = 0))) (args := [(.d (.b (decide (y1 = 0))))]) (v' := (fun y => (vGValue y))) h (OK_iBoolValue (decide (y1 = 0))) (by kernel_rfl) (by kernel_rfl) (fun _ => rfl) ?_
    clear h; intro y2 h
    refine sts_ok 1 (s' := ⟨[(16, (vGValue y2)), (15, (.d (.b (decide (y1 = 0))))), (14, (.d (.i .i64 y1))), (12, (.d (.b (decide (p0 = 3))))), (13, (.d (.b (decide (p0 = 3))))), (11, (.d (.i .i64 p0))), (7, (.d (.i .i64 y1))), (10, (.d (.i .i64 y1))), (9, (vGValue p2)), (8, (vGValue p1)), (6, (.ptr 6 0)), (5, (.ptr 5 0)), (4, (.ptr 4 0)), (0, (.d (.i .i64 p0))), (1, (vGValue p1)), (2, (vGValue p2))], [(6, [(.d (.i .i64 y2.kind)), (.d (.i .i64 y2.num)), (.d (.s (bs y2.text)))]), (5, [(.d (.i .i64 p2.kind)), (.d (.i .i64 p2.num)), (.d (.s (bs p2.text)))]), (4, [(.d (.i .i64 p1.kind)), (.d (.i .i64 p1.num)), (.d (.s (bs p1.text)))])]⟩) (by kernel_rfl) ?_
    refine nil_in ?_
    refine next_in ?_
    refine ret_in ?_
    refine blockK_ret ?_
    refine thenK_ret ?_
    have h := Option.some.inj h; subst h
    exact ret1_step (v := (vGValue y2)) (by kernel_rfl) (by kernel_rfl) (by kernel_rfl)
  · clear h; intro h
    refine seq_in ?_
    refine ops_in ?_
    refine sts_ok 2 (s' := ⟨[(17, (.d (.b (decide (p0 = 4))))), (18, (.d (.b (decide (p0 = 4))))), (12, (.d (.b (decide (p0 = 3))))), (13, (.d (.b (decide (p0 = 3))))), (11, (.d (.i .i64 p0))), (7, (.d (.i .i64 y1))), (10, (.d (.i .i64 y1))), (9, (vGValue p2)), (8, (vGValue p1)), (6, (.ptr 6 0)), (5, (.ptr 5 0)), (4, (.ptr 4 0)), (0, (.d (.i .i64 p0))), (1, (vGValue p1)), (2, (vGValue p2))], [(6, [(.d (.i .i64 0)), (.d (.i .i64 0)), (.d (.s (bs [])))]), (5, [(.d (.i .i64 p2.kind)), (.d (.i .i64 p2.num)), (.d (.s (bs p2.text)))]), (4, [(.d (.i .i64 p1.kind)), (.d (.i .i64 p1.num)), (.d (.s (bs p1.text)))])]⟩) (by kernel_rfl) ?_
    refine nil_in ?_
    refine next_in ?_
    refine cond_step h (by kernel_rfl) ?_ ?_
    · clear h; intro h
      refine seq_in ?_
      refine ops_in ?_
      refine sts_ok 2 (s' := ⟨[(20, (.d (.b (!decide (y1 = 0))))), (19, (.d (.i .i64 y1))), (17, (.d (.b (decide (p0 = 4))))), (18, (.d (.b (decide (p0 = 4))))), (12, (.d (.b (decide (p0 = 3))))), (13, (.d (.b (decide (p0 = 3))))), (11, (.d (.i .i64 p0))), (7, (.d (.i .i64 y1))), (10, (.d (.i .i64 y1))), (9, (vGValue p2)), (8, (vGValue p1)), (6, (.ptr 6 0)), (5, (.ptr 5 0)), (4, (.ptr 4 0)), (0, (.d (.i .i64 p0))), (1, (vGValue p1)), (2, (vGValue p2))], [(6, [(.d (.i .i64 0)), (.d (.i .i64 0)), (.d (.s (bs [])))]), (5, [(.d (.i .i64 p2.kind)), (.d (.i .i64 p2.num)), (.d (.s (bs p2.text)))]), (4, [(.d (.i .i64 p1.kind)), (.d (.i .i64 p1.num)), (.d (.s (bs p1.text)))])]⟩) (by kernel_rfl) ?_
      refine call_step (m := iBoolValue (!decide (y1 = 0))) (args := [(.d (.b (!decide (y1 = 0))))]) (v' := (fun y => (vGValue y))) h (OK_iBoolValue (!decide (y1 = 0))) (by kernel_rfl) (by kernel_rfl) (fun _ => rfl) ?_
      clear h; intro y3 h
      refine sts_ok 1 (s' := ⟨[(21, (vGValue y3)), (20, (.d (.b (!decide (y1 = 0))))), (19, (.d (.i .i64 y1))), (17, (.d (.b (decide (p0 = 4))))), (18, (.d (.b (decide (p0 = 4))))), (12, (.d (.b (decide (p0 = 3))))), (13, (.d (.b (decide (p0 = 3))))), (11, (.d (.i .i64 p0))), (7, (.d (.i .i64 y1))), (10, (.d (.i .i64 y1))), (9, (vGValue p2)), (8, (vGValue p1)), (6, (.ptr 6 0)), (5, (.ptr 5 0)), (4, (.ptr 4 0)), (0, (.d (.i .i64 p0))), (1, (vGValue p1)), (2, (vGValue p2))], [(6, [(.d (.i .i64 y3.kind)), (.d (.i .i64 y3.num)), (.d (.s (bs y3.text)))]), (5, [(.d (.i .i64 p2.kind)), (.d (.i .i64 p2.num)), (.d (.s (bs p2.text)))]), (4, [(.d (.i .i64 p1.kind)), (.d (.i .i64 p1.num)), (.d (.s (bs p1.text)))])]⟩) (by kernel_rfl) ?_
      refine nil_in ?_
      refine next_in ?_
      refine ret_in ?_
      refine blockK_ret ?_
      refine thenK_ret ?_
      have h := Option.some.inj h; subst h
      exact ret1_step (v := (vGValue y3)) (by kernel_rfl) (by kernel_rfl) (by kernel_rfl)
    · clear h; intro h
      refine seq_in ?_
      refine ops_in ?_
      refine sts_ok 2 (s' := ⟨[(22, (.d (.b (decide (p0 = 5))))), (23, (.d (.b (decide (p0 = 5))))), (17, (.d (.b (decide (p0 = 4))))), (18, (.d (.b (decide (p0 = 4))))), (12, (.d (.b (decide (p0 = 3))))), (13, (.d (.b (decide (p0 = 3))))), (11, (.d (.i .i64 p0))), (7, (.d (.i .i64 y1))), (10, (.d (.i .i64 y1))), (9, (vGValue p2)), (8, (vGValue p1)), (6, (.ptr 6 0)), (5, (.ptr 5 0)), (4, (.ptr 4 0)), (0, (.d (.i .i64 p0))), (1, (vGValue p1)), (2, (vGValue p2))], [(6, [(.d (.i .i64 0)), (.d (.i .i64 0)), (.d (.s (bs [])))]), (5, [(.d (.i .i64 p2.kind)), (.d (.i .i64 p2.num)), (.d (.s (bs p2.text)))]), (4, [(.d (.i .i64 p1.kind)), (.d (.i .i64 p1.num)), (.d (.s (bs p1.text)))])]⟩) (by kernel_rfl) ?_
      refine nil_in ?_
      refine next_in ?_
      refine cond_step h (by kernel_rfl) ?_ ?_
      · clear h; intro h
        refine seq_in ?_
        refine ops_in ?_
        refine sts_ok 2 (s' := ⟨[(25, (.d (.b (decide (y1 < 0))))), (24, (.d (.i .i64 y1))), (22, (.d (.b (decide (p0 = 5))))), (23, (.d (.b (decide (p0 = 5))))), (17, (.d (.b (decide (p0 = 4))))), (18, (.d (.b (decide (p0 = 4))))), (12, (.d (.b (decide (p0 = 3))))), (13, (.d (.b (decide (p0 = 3))))), (11, (.d (.i .i64 p0))), (7, (.d (.i .i64 y1))), (10, (.d (.i .i64 y1))), (9, (vGValue p2)), (8, (vGValue p1)), (6, (.ptr 6 0)), (5, (.ptr 5 0)), (4, (.ptr 4 0)), (0, (.d (.i .i64 p0))), (1, (vGValue p1)), (2, (vGValue p2))], [(6, [(.d (.i .i64 0)), (.d (.i .i64 0)), (.d (.s (bs [])))]), (5, [(.d (.i .i64 p2.kind)), (.d (.i .i64 p2.num)), (.d (.s (bs p2.text)))]), (4, [(.d (.i .i64 p1.kind)), (.d (.i .i64 p1.num)), (.d (.s (bs p1.text)))])]⟩) (by kernel_rfl) ?_
        refine call_step (m := iBoolValue (decide (y1 < 0))) (args := [(.d (.b (decide (y1 < 0))))]) (v' := (fun y => (vGValue y))) h (OK_iBoolValue (decide (y1 < 0))) (by kernel_rfl) (by kernel_rfl) (fun _ => rfl) ?_
        clear h; intro y4 h
        refine sts_ok 1 (s' := ⟨[(26, (vGValue y4)), (25, (.d (.b (decide (y1 < 0))))), (24, (.d (.i .i64 y1))), (22, (.d (.b (decide (p0 = 5))))), (23, (.d (.b (decide (p0 = 5))))), (17, (.d (.b (decide (p0 = 4))))), (18, (.d (.b (decide (p0 = 4))))), (12, (.d (.b (decide (p0 = 3))))), (13, (.d (.b (decide (p0 = 3))))), (11, (.d (.i .i64 p0))), (7, (.d (.i .i64 y1))), (10, (.d (.i .i64 y1))), (9, (vGValue p2)), (8, (vGValue p1)), (6, (.ptr 6 0)), (5, (.ptr 5 0)), (4, (.ptr 4 0)), (0, (.d (.i .i64 p0))), (1, (vGValue p1)), (2, (vGValue p2))], [(6, [(.d (.i .i64 y4.kind)), (.d (.i .i64 y4.num)), (.d (.s (bs y4.text)))]), (5, [(.d (.i .i64 p2.kind)), (.d (.i .i64 p2.num)), (.d (.s (bs p2.text)))]), (4, [(.d (.i .i64 p1.kind)), (.d (.i .i64 p1.num)), (.d (.s (bs p1.text)))])]⟩) (by kernel_rfl) ?_
        refine nil_in ?_
        refine next_in ?_
        refine ret_in ?_
        refine blockK_ret ?_
        refine thenK_ret ?_
        have h := Option.some.inj h; subst h
        exact ret1_step (v := (vGValue y4)) (by kernel_rfl) (by kernel_rfl) (by kernel_rfl)
      · clear h; intro h
        refine seq_in ?_
        refine ops_in ?_
        refine sts_ok 2 (s' := ⟨[(27, (.d (.b (decide (p0 = 6))))), (28, (.d (.b (decide (p0 = 6))))), (22, (.d (.b (decide (p0 = 5))))), (23, (.d (.b (decide (p0 = 5))))), (17, (.d (.b (decide (p0 = 4))))), (18, (.d (.b (decide (p0 = 4))))), (12, (.d (.b (decide (p0 = 3))))), (13, (.d (.b (decide (p0 = 3))))), (11, (.d (.i .i64 p0))), (7, (.d (.i .i64 y1))), (10, (.d (.i .i64 y1))), (9, (vGValue p2)), (8, (vGValue p1)), (6, (.ptr 6 0)), (5, (.ptr 5 0)), (4, (.ptr 4 0)), (0, (.d (.i .i64 p0))), (1, (vGValue p1)), (2, (vGValue p2))], [(6, [(.d (.i .i64 0)), (.d (.i .i64 0)), (.d (.s (bs [])))]), (5, [(.d (.i .i64 p2.kind)), (.d (.i .i64 p2.num)), (.d (.s (bs p2.text)))]), (4, [(.d (.i .i64 p1.kind)), (.d (.i .i64 p1.num)), (.d (.s (bs p1.text)))])]⟩) (by kernel_rfl) ?_
        refine nil_in ?_
        refine next_in ?_
        refine cond_step h (by kernel_rfl) ?_ ?_
        · clear h; intro h
          refine seq_in ?_
          refine ops_in ?_
          refine sts_ok 2 (s' := ⟨[(30, (.d (.b (decide (y1 ≤ 0))))), (29, (.d (.i .i64 y1))), (27, (.d (.b (decide (p0 = 6))))), (28, (.d (.b (decide (p0 = 6))))), (22, (.d (.b (decide (p0 = 5))))), (23, (.d (.b (decide (p0 = 5))))), (17, (.d (.b (decide (p0 = 4))))), (18, (.d (.b (decide (p0 = 4))))), (12, (.d (.b (decide (p0 = 3))))), (13, (.d (.b (decide (p0 = 3))))), (11, (.d (.i .i64 p0))), (7, (.d (.i .i64 y1))), (10, (.d (.i .i64 y1))), (9, (vGValue p2)), (8, (vGValue p1)), (6, (.ptr 6 0)), (5, (.ptr 5 0)), (4, (.ptr 4 0)), (0, (.d (.i .i64 p0))), (1, (vGValue p1)), (2, (vGValue p2))], [(6, [(.d (.i .i64 0)), (.d (.i .i64 0)), (.d (.s (bs [])))]), (5, [(.d (.i .i64 p2.kind)), (.d (.i .i64 p2.num)), (.d (.s (bs p2.text)))]), (4, [(.d (.i .i64 p1.kind)), (.d (.i .i64 p1.num)), (.d (.s (bs p1.text)))])]⟩) (by kernel_rfl) ?_
          refine call_step (m := iBoolValue (decide (y1 ≤ 0))) (args := [(.d (.b (decide (y1 ≤ 0))))]) (v' := (fun y => (vGValue y))) h (OK_iBoolValue (decide (y1 ≤ 0))) (by kernel_rfl) (by kernel_rfl) (fun _ => rfl) ?_
          clear h; intro y5 h
          refine sts_ok 1 (s' := ⟨[(31, (vGValue y5)), (30, (.d (.b (decide (y1 ≤ 0))))), (29, (.d (.i .i64 y1))), (27, (.d (.b (decide (p0 = 6))))), (28, (.d (.b (decide (p0 = 6))))), (22, (.d (.b (decide (p0 = 5))))), (23, (.d (.b (decide (p0 = 5))))), (17, (.d (.b (decide (p0 = 4))))), (18, (.d (.b (decide (p0 = 4))))), (12, (.d (.b (decide (p0 = 3))))), (13, (.d (.b (decide (p0 = 3))))), (11, (.d (.i .i64 p0))), (7, (.d (.i .i64 y1))), (10, (.d (.i .i64 y1))), (9, (vGValue p2)), (8, (vGValue p1)), (6, (.ptr 6 0)), (5, (.ptr 5 0)), (4, (.ptr 4 0)), (0, (.d (.i .i64 p0))), (1, (vGValue p1)), (2, (vGValue p2))], [(6, [(.d (.i .i64 y5.kind)), (.d (.i .i64 y5.num)), (.d (.s (bs y5.text)))]), (5, [(.d (.i .i64 p2.kind)), (.d (.i .i64 p2.num)), (.d (.s (bs p2.text)))]), (4, [(.d (.i .i64 p1.kind)), (.d (.i .i64 p1.num)), (.d (.s (bs p1.text)))])]⟩) (by kernel_rfl) ?_
          refine nil_in ?_
          refine next_in ?_
          refine ret_in ?_
          refine blockK_ret ?_
          refine thenK_ret ?_
          have h := Option.some.inj h; subst h
          exact ret1_step (v := (vGValue y5)) (by kernel_rfl) (by kernel_rfl) (by kernel_rfl)
        · clear h; intro h
          refine seq_in ?_
          refine ops_in ?_
          refine sts_ok 2 (s' := ⟨[(32, (.d (.b (decide (p0 = 7))))), (33, (.d (.b (decide (p0 = 7))))), (27, (.d (.b (decide (p0 = 6))))), (28, (.d (.b (decide (p0 = 6))))), (22, (.d (.b (decide (p0 = 5))))), (23, (.d (.b (decide (p0 = 5))))), (17, (.d (.b (decide (p0 = 4))))), (18, (.d (.b (decide (p0 = 4))))), (12, (.d (.b (decide (p0 = 3))))), (13, (.d (.b (decide (p0 = 3))))), (11, (.d (.i .i64 p0))), (7, (.d (.i .i64 y1))), (10, (.d (.i .i64 y1))), (9, (vGValue p2)), (8, (vGValue p1)), (6, (.ptr 6 0)), (5, (.ptr 5 0)), (4, (.ptr 4 0)), (0, (.d (.i .i64 p0))), (1, (vGValue p1)), (2, (vGValue p2))], [(6, [(.d (.i .i64 0)), (.d (.i .i64 0)), (.d (.s (bs [])))]), (5, [(.d (.i .i64 p2.kind)), (.d (.i .i64 p2.num)), (.d (.s (bs p2.text)))]), (4, [(.d (.i .i64 p1.kind)), (.d (.i .i64 p1.num)), (.d (.s (bs p1.text)))])]⟩) (by kernel_rfl) ?_
          refine nil_in ?_
          refine next_in ?_
          refine cond_step h (by kernel_rfl) ?_ ?_
          · clear h; intro h
            refine seq_in ?_
            refine ops_in ?_
            refine sts_ok 2 (s' := ⟨[(35, (.d (.b (decide (0 < y1))))), (34, (.d (.i .i64 y1))), (32, (.d (.b (decide (p0 = 7))))), (33, (.d (.b (decide (p0 = 7))))), (27, (.d (.b (decide (p0 = 6))))), (28, (.d (.b (decide (p0 = 6))))), (22, (.d (.b (decide (p0 = 5))))), (23, (.d (.b (decide (p0 = 5))))), (17, (.d (.b (decide (p0 = 4))))), (18, (.d (.b (decide (p0 = 4))))), (12, (.d (.b (decide (p0 = 3))))), (13, (.d (.b (decide (p0 = 3))))), (11, (.d (.i .i64 p0))), (7, (.d (.i .i64 y1))), (10, (.d (.i .i64 y1))), (9, (vGValue p2)), (8, (vGValue p1)), (6, (.ptr 6 0)), (5, (.ptr 5 0)), (4, (.ptr 4 0)), (0, (.d (.i .i64 p0))), (1, (vGValue p1)), (2, (vGValue p2))], [(6, [(.d (.i .i64 0)), (.d (.i .i64 0)), (.d (.s (bs [])))]), (5, [(.d (.i .i64 p2.kind)), (.d (.i .i64 p2.num)), (.d (.s (bs p2.text)))]), (4, [(.d (.i .i64 p1.kind)), (.d (.i .i64 p1.num)), (.d (.s (bs p1.text)))])]⟩) (by kernel_rfl) ?_
            refine call_step (m := iBoolValue (decide (0 < y1))) (args := [(.d (.b (decide (0 < y1))))]) (v' := (fun y => (vGValue y))) h (OK_iBoolValue (decide (0 < y1))) (by kernel_rfl) (by kernel_rfl) (fun _ => rfl) ?_
            clear h; intro y6 h
            refine sts_ok 1 (s' := ⟨[(36, (vGValue y6)), (35, (.d (.b (decide (0 < y1))))), (34, (.d (.i .i64 y1))), (32, (.d (.b (decide (p0 = 7))))), (33, (.d (.b (decide (p0 = 7))))), (27, (.d (.b (decide (p0 = 6))))), (28, (.d (.b (decide (p0 = 6))))), (22, (.d (.b (decide (p0 = 5))))), (23, (.d (.b (decide (p0 = 5))))), (17, (.d (.b (decide (p0 = 4))))), (18, (.d (.b (decide (p0 = 4))))), (12, (.d (.b (decide (p0 = 3))))), (13, (.d (.b (decide (p0 = 3))))), (11, (.d (.i .i64 p0))), (7, (.d (.i .i64 y1))), (10, (.d (.i .i64 y1))), (9, (vGValue p2)), (8, (vGValue p1)), (6, (.ptr 6 0)), (5, (.ptr 5 0)), (4, (.ptr 4 0)), (0, (.d (.i .i64 p0))), (1, (vGValue p1)), (2, (vGValue p2))], [(6, [(.d (.i .i64 y6.kind)), (.d (.i .i64 y6.num)), (.d (.s (bs y6.text)))]), (5, [(.d (.i .i64 p2.kind)), (.d (.i .i64 p2.num)), (.d (.s (bs p2.text)))]), (4, [(.d (.i .i64 p1.kind)), (.d (.i .i64 p1.num)), (.d (.s (bs p1.text)))])]⟩) (by kernel_rfl) ?_
            refine nil_in ?_
            refine next_in ?_
            refine ret_in ?_
            refine blockK_ret ?_
            refine thenK_ret ?_
            have h := Option.some.inj h; subst h
            exact ret1_step (v := (vGValue y6)) (by kernel_rfl) (by kernel_rfl) (by kernel_rfl)
          · clear h; intro h
            refine skip_in ?_
            refine blockK_norm ?_
            refine next_in ?_
            refine seq_in ?_
            refine ops_in ?_
            refine sts_ok 2 (s' := ⟨[(38, (.d (.b (decide (0 ≤ y1))))), (37, (.d (.i .i64 y1))), (32, (.d (.b (decide (p0 = 7))))), (33, (.d (.b (decide (p0 = 7))))), (27, (.d (.b (decide (p0 = 6))))), (28, (.d (.b (decide (p0 = 6))))), (22, (.d (.b (decide (p0 = 5))))), (23, (.d (.b (decide (p0 = 5))))), (17, (.d (.b (decide (p0 = 4))))), (18, (.d (.b (decide (p0 = 4))))), (12, (.d (.b (decide (p0 = 3))))), (13, (.d (.b (decide (p0 = 3))))), (11, (.d (.i .i64 p0))), (7, (.d (.i .i64 y1))), (10, (.d (.i .i64 y1))), (9, (vGValue p2)), (8, (vGValue p1)), (6, (.ptr 6 0)), (5, (.ptr 5 0)), (4, (.ptr 4 0)), (0, (.d (.i .i64 p0))), (1, (vGValue p1)), (2, (vGValue p2))], [(6, [(.d (.i .i64 0)), (.d (.i .i64 0)), (.d (.s (bs [])))]), (5, [(.d (.i .i64 p2.kind)), (.d (.i .i64 p2.num)), (.d (.s (bs p2.text)))]), (4, [(.d (.i .i64 p1.kind)), (.d (.i .i64 p1.num)), (.d (.s (bs p1.text)))])]⟩) (by kernel_rfl) ?_
            refine call_step (m := iBoolValue (decide (0 ≤ y1))) (args := [(.d (.b (decide (0 ≤ y1))))]) (v' := (fun y => (vGValue y))) h (OK_iBoolValue (decide (0 ≤ y1))) (by kernel_rfl) (by kernel_rfl) (fun _ => rfl) ?_
            clear h; intro y7 h
            refine sts_ok 1 (s' := ⟨[(39, (vGValue y7)), (38, (.d (.b (decide (0 ≤ y1))))), (37, (.d (.i .i64 y1))), (32, (.d (.b (decide (p0 = 7))))), (33, (.d (.b (decide (p0 = 7))))), (27, (.d (.b (decide (p0 = 6))))), (28, (.d (.b (decide (p0 = 6))))), (22, (.d (.b (decide (p0 = 5))))), (23, (.d (.b (decide (p0 = 5))))), (17, (.d (.b (decide (p0 = 4))))), (18, (.d (.b (decide (p0 = 4))))), (12, (.d (.b (decide (p0 = 3))))), (13, (.d (.b (decide (p0 = 3))))), (11, (.d (.i .i64 p0))), (7, (.d (.i .i64 y1))), (10, (.d (.i .i64 y1))), (9, (vGValue p2)), (8, (vGValue p1)), (6, (.ptr 6 0)), (5, (.ptr 5 0)), (4, (.ptr 4 0)), (0, (.d (.i .i64 p0))), (1, (vGValue p1)), (2, (vGValue p2))], [(6, [(.d (.i .i64 y7.kind)), (.d (.i .i64 y7.num)), (.d (.s (bs y7.text)))]), (5, [(.d (.i .i64 p2.kind)), (.d (.i .i64 p2.num)), (.d (.s (bs p2.text)))]), (4, [(.d (.i .i64 p1.kind)), (.d (.i .i64 p1.num)), (.d (.s (bs p1.text)))])]⟩) (by kernel_rfl) ?_
            refine nil_in ?_
            refine next_in ?_
            refine ret_in ?_
            have h := Option.some.inj h; subst h
            exact ret1_step (v := (vGValue y7)) (by kernel_rfl) (by kernel_rfl) (by kernel_rfl)
theorem OK_iFitsOp (p0 : Int) (p1 : GValue) : FOk Try.prog 135 [(.d (.i .i64 p0)), (vGValue p1)] (fun y => (.d (.b y))) (iFitsOp p0 p1) := by
  intro r h
  rw [iFitsOp] at h
  refine acalls_of_fn triFitsOp (Nat.le_of_ble_eq_true rfl) (by simp) ?_
  show avc Try.prog aciFitsOp (qiFitsOp _) ⟨[(0, (.d (.i .i64 p0))), (1, (vGValue p1))], []⟩
  delta aciFitsOp
  refine seq_in ?_
  refine ops_in ?_
  refine sts_ok 2 (s' := ⟨[(4, (.d (.b false))), (3, (.ptr 3 0)), (0, (.d (.i .i64 p0))), (1, (vGValue p1))], [(3, [(.d (.i .i64 p1.kind)), (.d (.i .i64 p1.num)), (.d (.s (bs p1.text)))])]⟩) (by kernel_rfl) ?_
  refine nil_in ?_
  refine next_in ?_
  refine seq_in ?_
  refine block_in ?_
  refine seq_in ?_
  refine ops_in ?_
  refine sts_ok 4 (s' := ⟨[(9, (.d (.b (decide (p1.kind = 0))))), (8, (.d (.b (decide (p1.kind = 0))))), (7, (.d (.i .i64 p1.kind))), (6, (.ptr 3 0)), (4, (.d (.b false))), (3, (.ptr 3 0)), (0, (.d (.i .i64 p0))), (1, (vGValue p1))], [(3, [(.d (.i .i64 p1.kind)), (.d (.i .i64 p1.num)), (.d (.s (bs p1.text)))])]⟩) (by kernel_rfl) ?_
  refine gp_step (p := true) (b := (decide (p1.kind = 0))) (v' := (.d (.i .i64 p0))) (by kernel_rfl) rfl rfl (fun hc => vop_val1 (by kernel_rfl) (by kernel_rfl)) ?_
  refine gp_step (p := true) (b := (decide (p1.kind = 0))) (v' := (.d (.b (decide (p0 ≤ 8))))) (by kernel_rfl) rfl rfl (fun hc => vop_val1 (Eq.trans (b := ([(true && ((decide (p1.kind = 0)) == false))] : List Bool).all id) (by kernel_rfl) (all_c hc rfl)) (by kernel_rfl)) ?_
  refine p_step (v' := (.d (.b (if (decide (p1.kind = 0)) = true then true else (decide (p0 ≤ 8)))))) rfl rfl (vop_pick (b := (decide (p1.kind = 0))) (p := true) (u := true) (q := (true && ((decide (p1.kind = 0)) == false))) (v := (decide (p0 ≤ 8))) (by kernel_rfl) (by kernel_rfl) (by kernel_rfl) (by kernel_rfl) (fun _ => rfl) (fun hb => gc_f rfl hb)) ?_
  refine sts_ok 1 (s' := ⟨[(5, (.d (.b (if (decide (p1.kind = 0)) = true then true else (decide (p0 ≤ 8)))))), (12, (.d (.b (if (decide (p1.kind = 0)) = true then true else (decide (p0 ≤ 8)))))), (11, (.ite (true && ((decide (p1.kind = 0)) == false)) (.d (.b (decide (p0 ≤ 8)))))), (10, (.ite (true && ((decide (p1.kind = 0)) == false)) (.d (.i .i64 p0)))), (9, (.d (.b (decide (p1.kind = 0))))), (8, (.d (.b (decide (p1.kind = 0))))), (7, (.d (.i .i64 p1.kind))), (6, (.ptr 3 0)), (4, (.d (.b false))), (3, (.ptr 3 0)), (0, (.d (.i .i64 p0))), (1, (vGValue p1))], [(3, [(.d (.i .i64 p1.kind)), (.d (.i .i64 p1.num)), (.d (.s (bs p1.text)))])]⟩) (by kernel_rfl) ?_
  refine nil_in ?_
  refine next_in ?_
  refine cond_step h (by kernel_rfl) ?_ ?_
  · clear h; intro h
    refine seq_in ?_
    refine ops_in ?_
    refine sts_ok 1 (s' := ⟨[(4, (.d (.b true))), (5, (.d (.b (if (decide (p1.kind = 0)) = true then true else (decide (p0 ≤ 8)))))), (12, (.d (.b (if (decide (p1.kind = 0)) = true then true else (decide (p0 ≤ 8)))))), (11, (.ite (true && ((decide (p1.kind = 0)) == false)) (.d (.b (decide (p0 ≤ 8)))))), (10, (.ite (true && ((decide (p1.kind = 0)) == false)) (.d (.i .i64 p0)))), (9, (.d (.b (decide (p1.kind = 0))))), (8, (.d (.b (decide (p1.kind = 0))))), (7, (.d (.i .i64 p1.kind))), (6, (.ptr 3 0)), (4, (.d (.b false))), (3, (.ptr 3 0)), (0, (.d (.i .i64 p0))), (1, (vGValue p1))], [(3, [(.d (.i .i64 p1.kind)), (.d (.i .i64 p1.num)), (.d (.s (bs p1.text)))])]⟩) (by kernel_rfl) ?_
    refine nil_in ?_
    refine next_in ?_
    refine ret_in ?_
    refine blockK_ret ?_
    refine thenK_ret ?_
    have h := Option.some.inj h; subst h
    exact ret1_step (v := (.d (.b true))) (by kernel_rfl) (by kernel_rfl) (by kernel_rfl)
  · clear h; intro h
    refine seq_in ?_
    refine ops_in ?_
    refine sts_ok 3 (s' := ⟨[(13, (.d (.b (decide (p0 = 9))))), (15, (.d (.b (decide (p0 = 9))))), (14, (.d (.i .i64 p0))), (5, (.d (.b (if (decide (p1.kind = 0)) = true then true else (decide (p0 ≤ 8)))))), (12, (.d (.b (if (decide (p1.kind = 0)) = true then true else (decide (p0 ≤ 8)))))), (11, (.ite (true && ((decide (p1.kind = 0)) == false)) (.d (.b (decide (p0 ≤ 8)))))), (10, (.ite (true && ((decide (p1.kind = 0)) == false)) (.d (.i .i64 p0)))), (9, (.d (.b (decide (p1.kind = 0))))), (8, (.d (.b (decide (p1.kind = 0))))), (7, (.d (.i .i64 p1.kind))), (6, (.ptr 3 0)), (4, (.d (.b false))), (3, (.ptr 3 0)), (0, (.d (.i .i64 p0))), (1, (vGValue p1))], [(3, [(.d (.i .i64 p1.kind)), (.d (.i .i64 p1.num)), (.d (.s (bs p1.text)))])]⟩) (by kernel_rfl) ?_
    refine nil_in ?_
    refine next_in ?_
    refine cond_step h (by kernel_rfl) ?_ ?_
    · clear h; intro h
      refine seq_in ?_
      refine ops_in ?_
      refine sts_ok 4 (s' := ⟨[(4, (.d (.b (decide (p1.kind = 2))))), (18, (.d (.b (decide (p1.kind = 2))))), (17, (.d (.i .i64 p1.kind))), (16, (.ptr 3 0)), (13, (.d (.b (decide (p0 = 9))))), (15, (.d (.b (decide (p0 = 9))))), (14, (.d (.i .i64 p0))), (5, (.d (.b (if (decide (p1.kind = 0)) = true then true else (decide (p0 ≤ 8)))))), (12, (.d (.b (if (decide (p1.kind = 0)) = true then true else (decide (p0 ≤ 8)))))), (11, (.ite (true && ((decide (p1.kind = 0)) == false)) (.d (.b (decide (p0 ≤ 8)))))), (10, (.ite (true && ((decide (p1.kind = 0)) == false)) (.d (.i .i64 p0)))), (9, (.d (.b (decide (p1.kind = 0))))), (8, (.d (.b (decide (p1.kind = 0))))), (7, (.d (.i .i64 p1.kind))), (6, (.ptr 3 0)), (4, (.d (.b false))), (3, (.ptr 3 0)), (0, (.d (.i .i64 p0))), (1, (vGValue p1))], [(3, [(.d (.i .i64 p1.kind)), (.d (.i .i64 p1.num)), (.d (.s (bs p1.text)))])]⟩) (by kernel_rfl) ?_
      refine nil_in ?_
      refine next_in ?_
      refine ret_in ?_
      refine blockK_ret ?_
      refine thenK_ret ?_
      have h := Option.some.inj h; subst h
      exact ret1_step (v := (.d (.b (decide (p1.kind = 2))))) (by kernel_rfl) (by kernel_rfl) (by kernel_rfl)
    · clear h; intro h
      refine skip_in ?_
      refine blockK_norm ?_
      refine next_in ?_
      refine seq_in ?_
      refine ops_in ?_
      refine sts_ok 4 (s' := ⟨[(4, (.d (.b (decide (p1.kind = 1))))), (21, (.d (.b (decide (p1.kind = 1))))), (20, (.d (.i .i64 p1.kind))), (19, (.ptr 3 0)), (13, (.d (.b (decide (p0 = 9))))), (15, (.d (.b (decide (p0 = 9))))), (14, (.d (.i .i64 p0))), (5, (.d (.b (if (decide (p1.kind = 0)) = true then true else (decide (p0 ≤ 8)))))), (12, (.d (.b (if (decide (p1.kind = 0)) = true then true else (decide (p0 ≤ 8)))))), (11, (.ite (true && ((decide (p1.kind = 0)) == false)) (.d (.b (decide (p0 ≤ 8)))))), (10, (.ite (true && ((decide (p1.kind = 0)) == false)) (.d (.i .i64 p0)))), (9, (.d (.b (decide (p1.kind = 0))))), (8, (.d (.b (decide (p1.kind = 0))))), (7, (.d (.i .i64 p1.kind))), (6, (.ptr 3 0)), (4, (.d (.b false))), (3, (.ptr 3 0)), (0, (.d (.i .i64 p0))), (1, (vGValue p1))], [(3, [(.d (.i .i64 p1.kind)), (.d (.i .i64 p1.num)), (.d (.s (bs p1.text)))])]⟩) (by kernel_rfl) ?_
      refine nil_in ?_
      refine next_in ?_
      refine ret_in ?_
      have h := Option.some.inj h; subst h
      exact ret1_step (v := (.d (.b (decide (p1.kind = 1))))) (by kernel_rfl) (by kernel_rfl) (by kernel_rfl)
theorem OKs_iLogic_L0 (p0 : Int) (p1 : GValue) (p2 : GValue) : (∀ (x15 : Int) (r : GValue × Int), iLogic_L0 p0 p1 p2 x15 = some r → avc Try.prog aciLogic_L0 (qiLogic_1 r) (stiLogic_L0 p0 p1 p2 x15)) := by
  refine iLogic_L0.partial_correctness p0 p1 p2 (fun x15 r => avc Try.prog aciLogic_L0 (qiLogic_1 r) (stiLogic_L0 p0 p1 p2 x15)) ?_
  · intro F_iLogic_L0 OK_iLogic_L0 x15 r h
    delta aciLogic_L0
    refine loop_unroll ?_
    refine seq_in ?_
    refine ops_in ?_
    refine sts_ok 1 (s' := ⟨(16, (.d (.b (decide (x15 < (([p1, p2] : List GValue).length : Int)))))) :: (stiLogic_L0 p0 p1 p2 x15).env, (stiLogic_L0 p0 p1 p2 x15).bx⟩) (by kernel_rfl) ?_
    refine nil_in ?_
    refine next_in ?_
    refine seq_in ?_
    refine cond_step h (by kernel_rfl) ?_ ?_
    · clear h; intro h
      refine skip_in ?_
      refine next_in ?_
      refine seq_in ?_
      refine block_in ?_
      refine seq_in ?_
      refine ops_in ?_
      refine v_step (m := idx ([p1, p2] : List GValue) x15) (v' := fun y => (.rp [(.i .i64 y.kind), (.i .i64 y.num), (.s (bs y.text))])) h rfl rfl (fun y hy => vop_ia (l := ([p1, p2] : List GValue)) (f := cGValue) (g := cGValue) (k := .i64) hy (fun _ => rfl) (by kernel_rfl) (by kernel_rfl) (by kernel_rfl)) ?_
      clear h; intro y1 h
      refine sts_ok 3 (s' := ⟨(9, (.ptr 9 0)) :: (18, (vGValue y1)) :: (17, (.rp [(.i .i64 y1.kind), (.i .i64 y1.num), (.s (bs y1.text))])) :: (16, (.d (.b (decide (x15 < (([p1, p2] : List GValue).length : Int)))))) :: (stiLogic_L0 p0 p1 p2 x15).env, [(9, [(.d (.i .i64 y1.kind)), (.d (.i .i64 y1.num)), (.d (.s (bs y1.text)))]), (4, [(.d (.i .i64 p1.kind)), (.d (.i .i64 p1.num)), (.d (.s (bs p1.text)))]), (5, [(.d (.i .i64 p2.kind)), (.d (.i .i64 p2.num)), (.d (.s (bs p2.text)))]), (6, [(.d (.i .i64 0)), (.d (.i .i64 0)), (.d (.s (bs [])))])]⟩) (by kernel_rfl) ?_
      refine nil_in ?_
      refine next_in ?_
      refine seq_in ?_
      refine ops_in ?_
      refine sts_ok 4 (s' := ⟨(22, (.d (.b (!decide (y1.kind = 3))))) :: (21, (.d (.b (!decide (y1.kind = 3))))) :: (20, (.d (.i .i64 y1.kind))) :: (19, (.ptr 9 0)) :: (9, (.ptr 9 0)) :: (18, (vGValue y1)) :: (17, (.rp [(.i .i64 y1.kind), (.i .i64 y1.num), (.s (bs y1.text))])) :: (16, (.d (.b (decide (x15 < (([p1, p2] : List GValue).length : Int)))))) :: (stiLogic_L0 p0 p1 p2 x15).env, [(9, [(.d (.i .i64 y1.kind)), (.d (.i .i64 y1.num)), (.d (.s (bs y1.text)))]), (4, [(.d (.i .i64 p1.kind)), (.d (.i .i64 p1.num)), (.d (.s (bs p1.text)))]), (5, [(.d (.i .i64 p2.kind)), (.d (.i .i64 p2.num)), (.d (.s (bs p2.text)))]), (6, [(.d (.i .i64 0)), (.d (.i .i64 0)), (.d (.s (bs [])))])]⟩) (by kernel_rfl) ?_
      refine gp_step (p := true) (b := (!decide (y1.kind = 3))) (v' := (.ptr 9 0)) (by kernel_rfl) rfl rfl (fun hc => vop_val1 (by kernel_rfl) (by kernel_rfl)) ?_
      refine gp_step (p := true) (b := (!decide (y1.kind = 3))) (v' := (.d (.i .i64 y1.kind))) (by kernel_rfl) rfl rfl (fun hc => vop_val1 (Eq.trans (b := ([(true && ((!decide (y1.kind = 3)) == true))] : List Bool).all id) (by kernel_rfl) (all_c hc rfl)) (by kernel_rfl)) ?_
      refine gp_step (p := true) (b := (!decide (y1.kind = 3))) (v' := (.d (.b (!decide (y1.kind = 0))))) (by kernel_rfl) rfl rfl (fun hc => vop_val1 (Eq.trans (b := ([(true && ((!decide (y1.kind = 3)) == true))] : List Bool).all id) (by kernel_rfl) (all_c hc rfl)) (by kernel_rfl)) ?_
      refine p_step (v' := (.d (.b (if (!decide (y1.kind = 3)) = true then (!decide (y1.kind = 0)) else false)))) rfl rfl (vop_pick (b := (!decide (y1.kind = 3))) (p := (true && ((!decide (y1.kind = 3)) == true))) (u := (!decide (y1.kind = 0))) (q := true) (v := false) (by kernel_rfl) (by kernel_rfl) (by kernel_rfl) (by kernel_rfl) (fun hb => gc_t rfl hb) (fun _ => rfl)) ?_
      refine nil_in ?_
      refine next_in ?_
      refine cond_step h (by kernel_rfl) ?_ ?_
      · clear h; intro h
        refine seq_in ?_
        refine ops_in ?_
        refine sts_ok 3 (s' := ⟨(7, (.d (.i .i64 1))) :: (27, (vGValue (GValue.mk 0 0 []))) :: (26, (.d (.b (if (!decide (y1.kind = 3)) = true then (!decide (y1.kind = 0)) else false)))) :: (25, (.ite (true && ((!decide (y1.kind = 3)) == true)) (.d (.b (!decide (y1.kind = 0)))))) :: (24, (.ite (true && ((!decide (y1.kind = 3)) == true)) (.d (.i .i64 y1.kind)))) :: (23, (.ite (true && ((!decide (y1.kind = 3)) == true)) (.ptr 9 0))) :: (22, (.d (.b (!decide (y1.kind = 3))))) :: (21, (.d (.b (!decide (y1.kind = 3))))) :: (20, (.d (.i .i64 y1.kind))) :: (19, (.ptr 9 0)) :: (9, (.ptr 9 0)) :: (18, (vGValue y1)) :: (17, (.rp [(.i .i64 y1.kind), (.i .i64 y1.num), (.s (bs y1.text))])) :: (16, (.d (.b (decide (x15 < (([p1, p2] : List GValue).length : Int)))))) :: (stiLogic_L0 p0 p1 p2 x15).env, [(9, [(.d (.i .i64 y1.kind)), (.d (.i .i64 y1.num)), (.d (.s (bs y1.text)))]), (4, [(.d (.i .i64 p1.kind)), (.d (.i .i64 p1.num)), (.d (.s (bs p1.text)))]), (5, [(.d (.i .i64 p2.kind)), (.d (.i .i64 p2.num)), (.d (.s (bs p2.text)))]), (6, [(.d (.i .i64 0)), (.d (.i .i64 0)), (.d (.s (bs [])))])]⟩) (by kernel_rfl) ?_
        refine nil_in ?_
        refine next_in ?_
        refine ret_in ?_
        refine blockK_ret ?_
        refine thenK_ret ?_
        refine thenK_ret ?_
        refine blockK_ret ?_
        refine thenK_ret ?_
        have h := Option.some.inj h; subst h
        exact retn_step (vs := [(vGValue (GValue.mk 0 0 [])), (.d (.i .i64 1))]) (by kernel_rfl) (by kernel_rfl)
      · clear h; intro h
        refine skip_in ?_
        refine blockK_norm ?_
        refine next_in ?_
        refine ops_in ?_
        refine sts_ok 2 (s' := ⟨(15, (.d (.i .i64 (IntKind.wrap .i64 (x15 + 1))))) :: (28, (.d (.i .i64 (IntKind.wrap .i64 (x15 + 1))))) :: (26, (.d (.b (if (!decide (y1.kind = 3)) = true then (!decide (y1.kind = 0)) else false)))) :: (25, (.ite (true && ((!decide (y1.kind = 3)) == true)) (.d (.b (!decide (y1.kind = 0)))))) :: (24, (.ite (true && ((!decide (y1.kind = 3)) == true)) (.d (.i .i64 y1.kind)))) :: (23, (.ite (true && ((!decide (y1.kind = 3)) == true)) (.ptr 9 0))) :: (22, (.d (.b (!decide (y1.kind = 3))))) :: (21, (.d (.b (!decide (y1.kind = 3))))) :: (20, (.d (.i .i64 y1.kind))) :: (19, (.ptr 9 0)) :: (9, (.ptr 9 0)) :: (18, (vGValue y1)) :: (17, (.rp [(.i .i64 y1.kind), (.i .i64 y1.num), (.s (bs y1.text))])) :: (16, (.d (.b (decide (x15 < (([p1, p2] : List GValue).length : Int)))))) :: (stiLogic_L0 p0 p1 p2 x15).env, [(9, [(.d (.i .i64 y1.kind)), (.d (.i .i64 y1.num)), (.d (.s (bs y1.text)))]), (4, [(.d (.i .i64 p1.kind)), (.d (.i .i64 p1.num)), (.d (.s (bs p1.text)))]), (5, [(.d (.i .i64 p2.kind)), (.d (.i .i64 p2.num)), (.d (.s (bs p2.text)))]), (6, [(.d (.i .i64 0)), (.d (.i .i64 0)), (.d (.s (bs [])))])]⟩) (by kernel_rfl) ?_
        refine nil_in ?_
        exact loop_back (s' := stiLogic_L0 p0 p1 p2 (IntKind.wrap .i64 (x15 + 1))) (wk_ren [(13, .old 13)] (by kernel_rfl) (er_cons (vr_same (by kernel_rfl) (by kernel_rfl)) (er_cons (vr_same (by kernel_rfl) (by kernel_rfl)) (er_cons (vr_same (by kernel_rfl) (by kernel_rfl)) (er_cons (vr_same (by kernel_rfl) (by kernel_rfl)) (er_cons (vr_old (t := 13) (by kernel_rfl) (by kernel_rfl)) (er_cons (vr_same (by kernel_rfl) (by kernel_rfl)) (er_cons (vr_same (by kernel_rfl) (by kernel_rfl)) (er_nil)))))))) (br_same (by kernel_rfl) (by kernel_rfl) (br_same (by kernel_rfl) (by kernel_rfl) (br_same (by kernel_rfl) (by kernel_rfl) (br_nil))))) (OK_iLogic_L0 (IntKind.wrap .i64 (x15 + 1)) _ h)
    · clear h; intro h
      refine exit_in ?_
      refine thenK_exit ?_
      refine thenK_exit ?_
      refine blockK_here ?_
      refine next_in ?_
      refine seq_in ?_
      refine ops_in ?_
      refine sts_ok 2 (s' := ⟨(30, (.d (.b (decide (p0 = 1))))) :: (29, (.d (.i .i64 p0))) :: (16, (.d (.b (decide (x15 < (([p1, p2] : List GValue).length : Int)))))) :: (stiLogic_L0 p0 p1 p2 x15).env, (stiLogic_L0 p0 p1 p2 x15).bx⟩) (by kernel_rfl) ?_
      refine call_step (m := iBoolValue (decide (p0 = 1))) (args := [(.d (.b (decide (p0 = 1))))]) (v' := (fun y => (vGValue y))) h (OK_iBoolValue (decide (p0 = 1))) (by kernel_rfl) (by kernel_rfl) (fun _ => rfl) ?_
      clear h; intro y2 h
      refine sts_ok 2 (s' := ⟨(10, (.ptr 10 0)) :: (31, (vGValue y2)) :: (30, (.d (.b (decide (p0 = 1))))) :: (29, (.d (.i .i64 p0))) :: (16, (.d (.b (decide (x15 < (([p1, p2] : List GValue).length : Int)))))) :: (stiLogic_L0 p0 p1 p2 x15).env, [(10, [(.d (.i .i64 y2.kind)), (.d (.i .i64 y2.num)), (.d (.s (bs y2.text)))]), (4, [(.d (.i .i64 p1.kind)), (.d (.i .i64 p1.num)), (.d (.s (bs p1.text)))]), (5, [(.d (.i .i64 p2.kind)), (.d (.i .i64 p2.num)), (.d (.s (bs p2.text)))]), (6, [(.d (.i .i64 0)), (.d (.i .i64 0)), (.d (.s (bs [])))])]⟩) (by kernel_rfl) ?_
      refine nil_in ?_
      refine next_in ?_
      refine seq_in ?_
      refine block_in ?_
      refine seq_in ?_
      refine ops_in ?_
      refine sts_ok 4 (s' := ⟨(36, (.d (.b ((decide (p1.kind = y2.kind)) && ((decide (p1.num = y2.num)) && ((decide (p1.text = y2.text)) && true)))))) :: (35, (.d (.b ((decide (p1.kind = y2.kind)) && ((decide (p1.num = y2.num)) && ((decide (p1.text = y2.text)) && true)))))) :: (34, (vGValue y2)) :: (33, (vGValue p1)) :: (10, (.ptr 10 0)) :: (31, (vGValue y2)) :: (30, (.d (.b (decide (p0 = 1))))) :: (29, (.d (.i .i64 p0))) :: (16, (.d (.b (decide (x15 < (([p1, p2] : List GValue).length : Int)))))) :: (stiLogic_L0 p0 p1 p2 x15).env, [(10, [(.d (.i .i64 y2.kind)), (.d (.i .i64 y2.num)), (.d (.s (bs y2.text)))]), (4, [(.d (.i .i64 p1.kind)), (.d (.i .i64 p1.num)), (.d (.s (bs p1.text)))]), (5, [(.d (.i .i64 p2.kind)), (.d (.i .i64 p2.num)), (.d (.s (bs p2.text)))]), (6, [(.d (.i .i64 0)), (.d (.i .i64 0)), (.d (.s (bs [])))])]⟩) (by kernel_rfl) ?_
      refine gp_step (p := true) (b := ((decide (p1.kind = y2.kind)) && ((decide (p1.num = y2.num)) && ((decide (p1.text = y2.text)) && true)))) (v' := (vGValue p2)) (by kernel_rfl) rfl rfl (fun hc => vop_val1 (by kernel_rfl) (by kernel_rfl)) ?_
      refine gp_step (p := true) (b := ((decide (p1.kind = y2.kind)) && ((decide (p1.num = y2.num)) && ((decide (p1.text = y2.text)) && true)))) (v' := (vGValue y2)) (by kernel_rfl) rfl rfl (fun hc => vop_val1 (by kernel_rfl) (by kernel_rfl)) ?_
      refine gp_step (p := true) (b := ((decide (p1.kind = y2.kind)) && ((decide (p1.num = y2.num)) && ((decide (p1.text = y2.text)) && true)))) (v' := (.d (.b ((decide (p2.kind = y2.kind)) && ((decide (p2.num = y2.num)) && ((decide (p2.text = y2.text)) && true)))))) (by kernel_rfl) rfl rfl (fun hc => vop_val1 (Eq.trans (b := ([(true && (((decide (p1.kind = y2.kind)) && ((decide (p1.num = y2.num)) && ((decide (p1.text = y2.text)) && true))) == false)), (true && (((decide (p1.kind = y2.kind)) && ((decide (p1.num = y2.num)) && ((decide (p1.text = y2.text)) && true))) == false))] : List Bool).all id) (by kernel_rfl) (all_c hc (all_c hc rfl))) (by kernel_rfl)) ?_
      refine p_step (v' := (.d (.b (if ((decide (p1.kind = y2.kind)) && ((decide (p1.num = y2.num)) && ((decide (p1.text = y2.text)) && true))) = true then true else ((decide (p2.kind = y2.kind)) && ((decide (p2.num = y2.num)) && ((decide (p2.text = y2.text)) && true))))))) rfl rfl (vop_pick (b := ((decide (p1.kind = y2.kind)) && ((decide (p1.num = y2.num)) && ((decide (p1.text = y2.text)) && true)))) (p := true) (u := true) (q := (true && (((decide (p1.kind = y2.kind)) && ((decide (p1.num = y2.num)) && ((decide (p1.text = y2.text)) && true))) == false))) (v := ((decide (p2.kind = y2.kind)) && ((decide (p2.num = y2.num)) && ((decide (p2.text = y2.text)) && true)))) (by kernel_rfl) (by kernel_rfl) (by kernel_rfl) (by kernel_rfl) (fun _ => rfl) (fun hb => gc_f rfl hb)) ?_
      refine sts_ok 1 (s' := ⟨(32, (.d (.b (if ((decide (p1.kind = y2.kind)) && ((decide (p1.num = y2.num)) && ((decide (p1.text = y2.text)) && true))) = true then true else ((decide (p2.kind = y2.kind)) && ((decide (p2.num = y2.num)) && ((decide (p2.text = y2.text)) && true))))))) :: (40, (.d (.b (if ((decide (p1.kind = y2.kind)) && ((decide (p1.num = y2.num)) && ((decide (p1.text = y2.text)) && true))) = true then true else ((decide (p2.kind = y2.kind)) && ((decide (p2.num = y2.num)) && ((decide (p2.text = y2.text)) && true))))))) :: (39, (.ite (true && (((decide (p1.kind = y2.kind)) && ((decide (p1.num = y2.num)) && ((decide (p1.text = y2.text)) && true))) == false)) (.d (.b ((decide (p2.kind = y2.kind)) && ((decide (p2.num = y2.num)) && ((decide (p2.text = y2.text)) && true))))))) :: (38, (.ite (true && (((decide (p1.kind = y2.kind)) && ((decide (p1.num = y2.num)) && ((decide (p1.text = y2.text)) && true))) == false)) (vGValue y2))) :: (37, (.ite (true && (((decide (p1.kind = y2.kind)) && ((decide (p1.num = y2.num)) && ((decide (p1.text = y2.text)) && true))) == false)) (vGValue p2))) :: (36, (.d (.b ((decide (p1.kind = y2.kind)) && ((decide (p1.num = y2.num)) && ((decide (p1.text = y2.text)) && true)))))) :: (35, (.d (.b ((decide (p1.kind = y2.kind)) && ((decide (p1.num = y2.num)) && ((decide (p1.text = y2.text)) && true)))))) :: (34, (vGValue y2)) :: (33, (vGValue p1)) :: (10, (.ptr 10 0)) :: (31, (vGValue y2)) :: (30, (.d (.b (decide (p0 = 1))))) :: (29, (.d (.i .i64 p0))) :: (16, (.d (.b (decide (x15 < (([p1, p2] : List GValue).length : Int)))))) :: (stiLogic_L0 p0 p1 p2 x15).env, [(10, [(.d (.i .i64 y2.kind)), (.d (.i .i64 y2.num)), (.d (.s (bs y2.text)))]), (4, [(.d (.i .i64 p1.kind)), (.d (.i .i64 p1.num)), (.d (.s (bs p1.text)))]), (5, [(.d (.i .i64 p2.kind)), (.d (.i .i64 p2.num)), (.d (.s (bs p2.text)))]), (6, [(.d (.i .i64 0)), (.d (.i .i64 0)), (.d (.s (bs [])))])]⟩) (by kernel_rfl) ?_
      refine nil_in ?_
      refine next_in ?_
      refine cond_step h (by kernel_rfl) ?_ ?_
      · clear h; intro h
        refine seq_in ?_
        refine ops_in ?_
        refine sts_ok 3 (s' := ⟨(7, (.d (.i .i64 0))) :: (41, (vGValue y2)) :: (32, (.d (.b (if ((decide (p1.kind = y2.kind)) && ((decide (p1.num = y2.num)) && ((decide (p1.text = y2.text)) && true))) = true then true else ((decide (p2.kind = y2.kind)) && ((decide (p2.num = y2.num)) && ((decide (p2.text = y2.text)) && true))))))) :: (40, (.d (.b (if ((decide (p1.kind = y2.kind)) && ((decide (p1.num = y2.num)) && ((decide (p1.text = y2.text)) && true))) = true then true else ((decide (p2.kind = y2.kind)) && ((decide (p2.num = y2.num)) && ((decide (p2.text = y2.text)) && true))))))) :: (39, (.ite (true && (((decide (p1.kind = y2.kind)) && ((decide (p1.num = y2.num)) && ((decide (p1.text = y2.text)) && true))) == false)) (.d (.b ((decide (p2.kind = y2.kind)) && ((decide (p2.num = y2.num)) && ((decide (p2.text = y2.text)) && true))))))) :: (38, (.ite (true && (((decide (p1.kind = y2.kind)) && ((decide (p1.num = y2.num)) && ((decide (p1.text = y2.text)) && true))) == false)) (vGValue y2))) :: (37, (.ite (true && (((decide (p1.kind = y2.kind)) && ((decide (p1.num = y2.num)) && ((decide (p1.text = y2.text)) && true))) == false)) (vGValue p2))) :: (36, (.d (.b ((decide (p1.kind = y2.kind)) && ((decide (p1.num = y2.num)) && ((decide (p1.text = y2.text)) && true)))))) :: (35, (.d (.b ((decide (p1.kind = y2.kind)) && ((decide (p1.num = y2.num)) && ((decide (p1.text = y2.text)) && true)))))) :: (34, (vGValue y2)) :: (33, (vGValue p1)) :: (10, (.ptr 10 0)) :: (31, (vGValue y2)) :: (30, (.d (.b (decide (p0 = 1))))) :: (29, (.d (.i .i64 p0))) :: (16, (.d (.b (decide (x15 < (([p1, p2] : List GValue).length : Int)))))) :: (stiLogic_L0 p0 p1 p2 x15).env, [(10, [(.d (.i .i64 y2.kind)), (.d (.i .i64 y2.num)), (.d (.s (bs y2.text)))]), (4, [(.d (.i .i64 p1.kind)), (.d (.i .i64 p1.num)), (.d (.s (bs p1.text)))]), (5, [(.d (.i .i64 p2.kind)), (.d (.i .i64 p2.num)), (.d (.s (bs p2.text)))]), (6, [(.d (.i .i64 y2.kind)), (.d (.i .i64 y2.num)), (.d (.s (bs y2.text)))])]⟩) (by kernel_rfl) ?_
        refine nil_in ?_
        refine next_in ?_
        refine ret_in ?_
        refine blockK_ret ?_
        refine thenK_ret ?_
        have h := Option.some.inj h; subst h
        exact retn_step (vs := [(vGValue y2), (.d (.i .i64 0))]) (by kernel_rfl) (by kernel_rfl)
      · clear h; intro h
        refine seq_in ?_
        refine ops_in ?_
        refine sts_ok 4 (s' := ⟨(46, (.d (.b (decide (p1.kind = 0))))) :: (45, (.d (.b (decide (p1.kind = 0))))) :: (44, (.d (.i .i64 p1.kind))) :: (43, (.ptr 4 0)) :: (32, (.d (.b (if ((decide (p1.kind = y2.kind)) && ((decide (p1.num = y2.num)) && ((decide (p1.text = y2.text)) && true))) = true then true else ((decide (p2.kind = y2.kind)) && ((decide (p2.num = y2.num)) && ((decide (p2.text = y2.text)) && true))))))) :: (40, (.d (.b (if ((decide (p1.kind = y2.kind)) && ((decide (p1.num = y2.num)) && ((decide (p1.text = y2.text)) && true))) = true then true else ((decide (p2.kind = y2.kind)) && ((decide (p2.num = y2.num)) && ((decide (p2.text = y2.text)) && true))))))) :: (39, (.ite (true && (((decide (p1.kind = y2.kind)) && ((decide (p1.num = y2.num)) && ((decide (p1.text = y2.text)) && true))) == false)) (.d (.b ((decide (p2.kind = y2.kind)) && ((decide (p2.num = y2.num)) && ((decide (p2.text = y2.text)) && true))))))) :: (38, (.ite (true && (((decide (p1.kind = y2.kind)) && ((decide (p1.num = y2.num)) && ((decide (p1.text = y2.text)) && true))) == false)) (vGValue y2))) :: (37, (.ite (true && (((decide (p1.kind = y2.kind)) && ((decide (p1.num = y2.num)) && ((decide (p1.text = y2.text)) && true))) == false)) (vGValue p2))) :: (36, (.d (.b ((decide (p1.kind = y2.kind)) && ((decide (p1.num = y2.num)) && ((decide (p1.text = y2.text)) && true)))))) :: (35, (.d (.b ((decide (p1.kind = y2.kind)) && ((decide (p1.num = y2.num)) && ((decide (p1.text = y2.text)) && true)))))) :: (34, (vGValue y2)) :: (33, (vGValue p1)) :: (10, (.ptr 10 0)) :: (31, (vGValue y2)) :: (30, (.d (.b (decide (p0 = 1))))) :: (29, (.d (.i .i64 p0))) :: (16, (.d (.b (decide (x15 < (([p1, p2] : List GValue).length : Int)))))) :: (stiLogic_L0 p0 p1 p2 x15).env, [(10, [(.d (.i .i64 y2.kind)), (.d (.i .i64 y2.num)), (.d (.s (bs y2.text)))]), (4, [(.d (.i .i64 p1.kind)), (.d (.i .i64 p1.num)), (.d (.s (bs p1.text)))]), (5, [(.d (.i .i64 p2.kind)), (.d (.i .i64 p2.num)), (.d (.s (bs p2.text)))]), (6, [(.d (.i .i64 0)), (.d (.i .i64 0)), (.d (.s (bs [])))])]⟩) (by kernel_rfl) ?_
        refine gp_step (p := true) (b := (decide (p1.kind = 0))) (v' := (.ptr 5 0)) (by kernel_rfl) rfl rfl (fun hc => vop_val1 (by kernel_rfl) (by kernel_rfl)) ?_
        refine gp_step (p := true) (b := (decide (p1.kind = 0))) (v' := (.d (.i .i64 p2.kind))) (by kernel_rfl) rfl rfl (fun hc => vop_val1 (Eq.trans (b := ([(true && ((decide (p1.kind = 0)) == false))] : List Bool).all id) (by kernel_rfl) (all_c hc rfl)) (by kernel_rfl)) ?_
        refine gp_step (p := true) (b := (decide (p1.kind = 0))) (v' := (.d (.b (decide (p2.kind = 0))))) (by kernel_rfl) rfl rfl (fun hc => vop_val1 (Eq.trans (b := ([(true && ((decide (p1.kind = 0)) == false))] : List Bool).all id) (by kernel_rfl) (all_c hc rfl)) (by kernel_rfl)) ?_
        refine p_step (v' := (.d (.b (if (decide (p1.kind = 0)) = true then true else (decide (p2.kind = 0)))))) rfl rfl (vop_pick (b := (decide (p1.kind = 0))) (p := true) (u := true) (q := (true && ((decide (p1.kind = 0)) == false))) (v := (decide (p2.kind = 0))) (by kernel_rfl) (by kernel_rfl) (by kernel_rfl) (by kernel_rfl) (fun _ => rfl) (fun hb => gc_f rfl hb)) ?_
        refine sts_ok 1 (s' := ⟨(42, (.d (.b (if (decide (p1.kind = 0)) = true then true else (decide (p2.kind = 0)))))) :: (50, (.d (.b (if (decide (p1.kind = 0)) = true then true else (decide (p2.kind = 0)))))) :: (49, (.ite (true && ((decide (p1.kind = 0)) == false)) (.d (.b (decide (p2.kind = 0)))))) :: (48, (.ite (true && ((decide (p1.kind = 0)) == false)) (.d (.i .i64 p2.kind)))) :: (47, (.ite (true && ((decide (p1.kind = 0)) == false)) (.ptr 5 0))) :: (46, (.d (.b (decide (p1.kind = 0))))) :: (45, (.d (.b (decide (p1.kind = 0))))) :: (44, (.d (.i .i64 p1.kind))) :: (43, (.ptr 4 0)) :: (32, (.d (.b (if ((decide (p1.kind = y2.kind)) && ((decide (p1.num = y2.num)) && ((decide (p1.text = y2.text)) && true))) = true then true else ((decide (p2.kind = y2.kind)) && ((decide (p2.num = y2.num)) && ((decide (p2.text = y2.text)) && true))))))) :: (40, (.d (.b (if ((decide (p1.kind = y2.kind)) && ((decide (p1.num = y2.num)) && ((decide (p1.text = y2.text)) && true))) = true then true else ((decide (p2.kind = y2.kind)) && ((decide (p2.num = y2.num)) && ((decide (p2.text = y2.text)) && true))))))) :: (39, (.ite (true && (((decide (p1.kind = y2.kind)) && ((decide (p1.num = y2.num)) && ((decide (p1.text = y2.text)) && true))) == false)) (.d (.b ((decide (p2.kind = y2.kind)) && ((decide (p2.num = y2.num)) && ((decide (p2.text = y2.text)) && true))))))) :: (38, (.ite (true && (((decide (p1.kind = y2.kind)) && ((decide (p1.num = y2.num)) && ((decide (p1.text = y2.text)) && true))) == false)) (vGValue y2))) :: (37, (.ite (true && (((decide (p1.kind = y2.kind)) && ((decide (p1.num = y2.num)) && ((decide (p1.text = y2.text)) && true))) == false)) (vGValue p2))) :: (36, (.d (.b ((decide (p1.kind = y2.kind)) && ((decide (p1.num = y2.num)) && ((decide (p1.text = y2.text)) && true)))))) :: (35, (.d (.b ((decide (p1.kind = y2.kind)) && ((decide (p1.num = y2.num)) && ((decide (p1.text = y2.text)) && true)))))) :: (34, (vGValue y2)) :: (33, (vGValue p1)) :: (10, (.ptr 10 0)) :: (31, (vGValue y2)) :: (30, (.d (.b (decide (p0 = 1))))) :: (29, (.d (.i .i64 p0))) :: (16, (.d (.b (decide (x15 < (([p1, p2] : List GValue).length : Int)))))) :: (stiLogic_L0 p0 p1 p2 x15).env, [(10, [(.d (.i .i64 y2.kind)), (.d (.i .i64 y2.num)), (.d (.s (bs y2.text)))]), (4, [(.d (.i .i64 p1.kind)), (.d (.i .i64 p1.num)), (.d (.s (bs p1.text)))]), (5, [(.d (.i .i64 p2.kind)), (.d (.i .i64 p2.num)), (.d (.s (bs p2.text)))]), (6, [(.d (.i .i64 0)), (.d (.i .i64 0)), (.d (.s (bs [])))])]⟩) (by kernel_rfl) ?_
        refine nil_in ?_
        refine next_in ?_
        refine cond_step h (by kernel_rfl) ?_ ?_
        · clear h; intro h
          refine seq_in ?_
          refine ops_in ?_
          refine sts_ok 3 (s' := ⟨(7, (.d (.i .i64 0))) :: (51, (vGValue (GValue.mk 0 0 []))) :: (42, (.d (.b (if (decide (p1.kind = 0)) = true then true else (decide (p2.kind = 0)))))) :: (50, (.d (.b (if (decide (p1.kind = 0)) = true then true else (decide (p2.kind = 0)))))) :: (49, (.ite (true && ((decide (p1.kind = 0)) == false)) (.d (.b (decide (p2.kind = 0)))))) :: (48, (.ite (true && ((decide (p1.kind = 0)) == false)) (.d (.i .i64 p2.kind)))) :: (47, (.ite (true && ((decide (p1.kind = 0)) == false)) (.ptr 5 0))) :: (46, (.d (.b (decide (p1.kind = 0))))) :: (45, (.d (.b (decide (p1.kind = 0))))) :: (44, (.d (.i .i64 p1.kind))) :: (43, (.ptr 4 0)) :: (32, (.d (.b (if ((decide (p1.kind = y2.kind)) && ((decide (p1.num = y2.num)) && ((decide (p1.text = y2.text)) && true))) = true then true else ((decide (p2.kind = y2.kind)) && ((decide (p2.num = y2.num)) && ((decide (p2.text = y2.text)) && true))))))) :: (40, (.d (.b (if ((decide (p1.kind = y2.kind)) && ((decide (p1.num = y2.num)) && ((decide (p1.text = y2.text)) && true))) = true then true else ((decide (p2.kind = y2.kind)) && ((decide (p2.num = y2.num)) && ((decide (p2.text = y2.text)) && true))))))) :: (39, (.ite (true && (((decide (p1.kind = y2.kind)) && ((decide (p1.num = y2.num)) && ((decide (p1.text = y2.text)) && true))) == false)) (.d (.b ((decide (p2.kind = y2.kind)) && ((decide (p2.num = y2.num)) && ((decide (p2.text = y2.text)) && true))))))) :: (38, (.ite (true && (((decide (p1.kind = y2.kind)) && ((decide (p1.num = y2.num)) && ((decide (p1.text = y2.text)) && true))) == false)) (vGValue y2))) :: (37, (.ite (true && (((decide (p1.kind = y2.kind)) && ((decide (p1.num = y2.num)) && ((decide (p1.text = y2.text)) && true))) == false)) (vGValue p2))) :: (36, (.d (.b ((decide (p1.kind = y2.kind)) && ((decide (p1.num = y2.num)) && ((decide (p1.text = y2.text)) && true)))))) :: (35, (.d (.b ((decide (p1.kind = y2.kind)) && ((decide (p1.num = y2.num)) && ((decide (p1.text = y2.text)) && true)))))) :: (34, (vGValue y2)) :: (33, (vGValue p1)) :: (10, (.ptr 10 0)) :: (31, (vGValue y2)) :: (30, (.d (.b (decide (p0 = 1))))) :: (29, (.d (.i .i64 p0))) :: (16, (.d (.b (decide (x15 < (([p1, p2] : List GValue).length : Int)))))) :: (stiLogic_L0 p0 p1 p2 x15).env, [(10, [(.d (.i .i64 y2.kind)), (.d (.i .i64 y2.num)), (.d (.s (bs y2.text)))]), (4, [(.d (.i .i64 p1.kind)), (.d (.i .i64 p1.num)), (.d (.s (bs p1.text)))]), (5, [(.d (.i .i64 p2.kind)), (.d (.i .i64 p2.num)), (.d (.s (bs p2.text)))]), (6, [(.d (.i .i64 0)), (.d (.i .i64 0)), (.d (.s (bs [])))])]⟩) (by kernel_rfl) ?_
          refine nil_in ?_
          refine next_in ?_
          refine ret_in ?_
          refine blockK_ret ?_
          refine thenK_ret ?_
          have h := Option.some.inj h; subst h
          exact retn_step (vs := [(vGValue (GValue.mk 0 0 [])), (.d (.i .i64 0))]) (by kernel_rfl) (by kernel_rfl)
        · clear h; intro h
          refine skip_in ?_
          refine blockK_norm ?_
          refine next_in ?_
          refine seq_in ?_
          refine ops_in ?_
          refine sts_ok 2 (s' := ⟨(53, (.d (.b (decide (p0 = 2))))) :: (52, (.d (.i .i64 p0))) :: (42, (.d (.b (if (decide (p1.kind = 0)) = true then true else (decide (p2.kind = 0)))))) :: (50, (.d (.b (if (decide (p1.kind = 0)) = true then true else (decide (p2.kind = 0)))))) :: (49, (.ite (true && ((decide (p1.kind = 0)) == false)) (.d (.b (decide (p2.kind = 0)))))) :: (48, (.ite (true && ((decide (p1.kind = 0)) == false)) (.d (.i .i64 p2.kind)))) :: (47, (.ite (true && ((decide (p1.kind = 0)) == false)) (.ptr 5 0))) :: (46, (.d (.b (decide (p1.kind = 0))))) :: (45, (.d (.b (decide (p1.kind = 0))))) :: (44, (.d (.i .i64 p1.kind))) :: (43, (.ptr 4 0)) :: (32, (.d (.b (if ((decide (p1.kind = y2.kind)) && ((decide (p1.num = y2.num)) && ((decide (p1.text = y2.text)) && true))) = true then true else ((decide (p2.kind = y2.kind)) && ((decide (p2.num = y2.num)) && ((decide (p2.text = y2.text)) && true))))))) :: (40, (.d (.b (if ((decide (p1.kind = y2.kind)) && ((decide (p1.num = y2.num)) && ((decide (p1.text = y2.text)) && true))) = true then true else ((decide (p2.kind = y2.kind)) && ((decide (p2.num = y2.num)) && ((decide (p2.text = y2.text)) && true))))))) :: (39, (.ite (true && (((decide (p1.kind = y2.kind)) && ((decide (p1.num = y2.num)) && ((decide (p1.text = y2.text)) && true))) == false)) (.d (.b ((decide (p2.kind = y2.kind)) && ((decide (p2.num = y2.num)) && ((decide (p2.text = y2.text)) && true))))))) :: (38, (.ite (true && (((decide (p1.kind = y2.kind)) && ((decide (p1.num = y2.num)) && ((decide (p1.text = y2.text)) && true))) == false)) (vGValue y2))) :: (37, (.ite (true && (((decide (p1.kind = y2.kind)) && ((decide (p1.num = y2.num)) && ((decide (p1.text = y2.text)) && true))) == false)) (vGValue p2))) :: (36, (.d (.b ((decide (p1.kind = y2.kind)) && ((decide (p1.num = y2.num)) && ((decide (p1.text = y2.text)) && true)))))) :: (35, (.d (.b ((decide (p1.kind = y2.kind)) && ((decide (p1.num = y2.num)) && ((decide (p1.text = y2.text)) && true)))))) :: (34, (vGValue y2)) :: (33, (vGValue p1)) :: (10, (.ptr 10 0)) :: (31, (vGValue y2)) :: (30, (.d (.b (decide (p0 = 1))))) :: (29, (.d (.i .i64 p0))) :: (16, (.d (.b (decide (x15 < (([p1, p2] : List GValue).length : Int)))))) :: (stiLogic_L0 p0 p1 p2 x15).env, [(10, [(.d (.i .i64 y2.kind)), (.d (.i .i64 y2.num)), (.d (.s (bs y2.text)))]), (4, [(.d (.i .i64 p1.kind)), (.d (.i .i64 p1.num)), (.d (.s (bs p1.text)))]), (5, [(.d (.i .i64 p2.kind)), (.d (.i .i64 p2.num)), (.d (.s (bs p2.text)))]), (6, [(.d (.i .i64 0)), (.d (.i .i64 0)), (.d (.s (bs [])))])]⟩) (by kernel_rfl) ?_
          refine call_step (m := iBoolValue (decide (p0 = 2))) (args := [(.d (.b (decide (p0 = 2))))]) (v' := (fun y => (vGValue y))) h (OK_iBoolValue (decide (p0 = 2))) (by kernel_rfl) (by kernel_rfl) (fun _ => rfl) ?_
          clear h; intro y3 h
          refine sts_ok 2 (s' := ⟨(7, (.d (.i .i64 0))) :: (54, (vGValue y3)) :: (53, (.d (.b (decide (p0 = 2))))) :: (52, (.d (.i .i64 p0))) :: (42, (.d (.b (if (decide (p1.kind = 0)) = true then true else (decide (p2.kind = 0)))))) :: (50, (.d (.b (if (decide (p1.kind = 0)) = true then true else (decide (p2.kind = 0)))))) :: (49, (.ite (true && ((decide (p1.kind = 0)) == false)) (.d (.b (decide (p2.kind = 0)))))) :: (48, (.ite (true && ((decide (p1.kind = 0)) == false)) (.d (.i .i64 p2.kind)))) :: (47, (.ite (true && ((decide (p1.kind = 0)) == false)) (.ptr 5 0))) :: (46, (.d (.b (decide (p1.kind = 0))))) :: (45, (.d (.b (decide (p1.kind = 0))))) :: (44, (.d (.i .i64 p1.kind))) :: (43, (.ptr 4 0)) :: (32, (.d (.b (if ((decide (p1.kind = y2.kind)) && ((decide (p1.num = y2.num)) && ((decide (p1.text = y2.text)) && true))) = true then true else ((decide (p2.kind = y2.kind)) && ((decide (p2.num = y2.num)) && ((decide (p2.text = y2.text)) && true))))))) :: (40, (.d (.b (if ((decide (p1.kind = y2.kind)) && ((decide (p1.num = y2.num)) && ((decide (p1.text = y2.text)) && true))) = true then true else ((decide (p2.kind = y2.kind)) && ((decide (p2.num = y2.num)) && ((decide (p2.text = y2.text)) && true))))))) :: (39, (.ite (true && (((decide (p1.kind = y2.kind)) && ((decide (p1.num = y2.num)) && ((decide (p1.text = y2.text)) && true))) == false)) (.d (.b ((decide (p2.kind = y2.kind)) && ((decide (p2.num = y2.num)) && ((decide (p2.text = y2.text)) && true))))))) :: (38, (.ite (true && (((decide (p1.kind = y2.kind)) && ((decide (p1.num = y2.num)) && ((decide (p1.text = y2.text)) && true))) == false)) (vGValue y2))) :: (37, (.ite (true && (((decide (p1.kind = y2.kind)) && ((decide (p1.num = y2.num)) && ((decide (p1.text = y2.text)) && true))) == false)) (vGValue p2))) :: (36, (.d (.b ((decide (p1.kind = y2.kind)) && ((decide (p1.num = y2.num)) && ((decide (p1.text = y2.text)) && true)))))) :: (35, (.d (.b ((decide (p1.kind = y2.kind)) && ((decide (p1.num = y2.num)) && ((decide (p1.text = y2.text)) && true)))))) :: (34, (vGValue y2)) :: (33, (vGValue p1)) :: (10, (.ptr 10 0)) :: (31, (vGValue y2)) :: (30, (.d (.b (decide (p0 = 1))))) :: (29, (.d (.i .i64 p0))) :: (16, (.d (.b (decide (x15 < (([p1, p2] : List GValue).length : Int)))))) :: (stiLogic_L0 p0 p1 p2 x15).env, [(10, [(.d (.i .i64 y2.kind)), (.d (.i .i64 y2.num)), (.d (.s (bs y2.text)))]), (4, [(.d (.i .i64 p1.kind)), (.d (.i .i64 p1.num)), (.d (.s (bs p1.text)))]), (5, [(.d (.i .i64 p2.kind)), (.d (.i .i64 p2.num)), (.d (.s (bs p2.text)))]), (6, [(.d (.i .i64 y3.kind)), (.d (.i .i64 y3.num)), (.d (.s (bs y3.text)))])]⟩) (by kernel_rfl) ?_
          refine nil_in ?_
          refine next_in ?_
          refine ret_in ?_
          have h := Option.some.inj h; subst h
          exact retn_step (vs := [(vGValue y3), (.d (.i .i64 0))]) (by kernel_rfl) (by kernel_rfl)
theorem OK_iLogic_L0 (p0 : Int) (p1 : GValue) (p2 : GValue) (x15 : Int) (r : GValue × Int) (h : iLogic_L0 p0 p1 p2 x15 = some r) : avc Try.prog aciLogic_L0 (qiLogic_1 r) (stiLogic_L0 p0 p1 p2 x15) := (OKs_iLogic_L0 p0 p1 p2) x15 r h
theorem OK_iLogic (p0 : Int) (p1 : GValue) (p2 : GValue) : FOk Try.prog 134 [(.d (.i .i64 p0)), (vGValue p1), (vGValue p2)] (fun y => (.tup [(vGValue y.1), (.d (.i .i64 y.2))])) (iLogic p0 p1 p2) := by
  intro r h
  rw [iLogic] at h
  refine acalls_of_fn triLogic (Nat.le_of_ble_eq_true rfl) (by simp) ?_
  show avc Try.prog aciLogic (qiLogic _) ⟨[(0, (.d (.i .i64 p0))), (1, (vGValue p1)), (2, (vGValue p2))], []⟩
  delta aciLogic
  refine seq_in ?_
  refine ops_in ?_
  refine sts_ok 4 (s' := ⟨[(7, (.d (.i .i64 0))), (6, (.ptr 6 0)), (5, (.ptr 5 0)), (4, (.ptr 4 0)), (0, (.d (.i .i64 p0))), (1, (vGValue p1)), (2, (vGValue p2))], [(6, [(.d (.i .i64 0)), (.d (.i .i64 0)), (.d (.s (bs [])))]), (5, [(.d (.i .i64 p2.kind)), (.d (.i .i64 p2.num)), (.d (.s (bs p2.text)))]), (4, [(.d (.i .i64 p1.kind)), (.d (.i .i64 p1.num)), (.d (.s (bs p1.text)))])]⟩) (by kernel_rfl) ?_
  refine nil_in ?_
  refine next_in ?_
  refine seq_in ?_
  refine seq_in ?_
  refine ops_in ?_
  refine sts_ok 2 (s' := ⟨[(12, (vGValue p2)), (11, (vGValue p1)), (7, (.d (.i .i64 0))), (6, (.ptr 6 0)), (5, (.ptr 5 0)), (4, (.ptr 4 0)), (0, (.d (.i .i64 p0))), (1, (vGValue p1)), (2, (vGValue p2))], [(6, [(.d (.i .i64 0)), (.d (.i .i64 0)), (.d (.s (bs [])))]), (5, [(.d (.i .i64 p2.kind)), (.d (.i .i64 p2.num)), (.d (.s (bs p2.text)))]), (4, [(.d (.i .i64 p1.kind)), (.d (.i .i64 p1.num)), (.d (.s (bs p1.text)))])]⟩) (by kernel_rfl) ?_
  refine bsl_step (l := ([p1, p2] : List GValue)) (f := cGValue) (g := cGValue) (by kernel_rfl) (fun _ => rfl) (by kernel_rfl) ?_
  refine p_step (v' := (.d (.i .i64 (([p1, p2] : List GValue).length : Int)))) rfl rfl (vop_len (sz := 3) (l := ([p1, p2] : List GValue)) (f := cGValue) (by kernel_rfl) (by kernel_rfl)) ?_
  refine sts_ok 1 (s' := ⟨[(15, (.d (.i .i64 0))), (14, (.d (.i .i64 (([p1, p2] : List GValue).length : Int)))), (13, (.osl 13 25 3 (([p1, p2] : List GValue).map cGValue))), (12, (vGValue p2)), (11, (vGValue p1)), (7, (.d (.i .i64 0))), (6, (.ptr 6 0)), (5, (.ptr 5 0)), (4, (.ptr 4 0)), (0, (.d (.i .i64 p0))), (1, (vGValue p1)), (2, (vGValue p2))], [(6, [(.d (.i .i64 0)), (.d (.i .i64 0)), (.d (.s (bs [])))]), (5, [(.d (.i .i64 p2.kind)), (.d (.i .i64 p2.num)), (.d (.s (bs p2.text)))]), (4, [(.d (.i .i64 p1.kind)), (.d (.i .i64 p1.num)), (.d (.s (bs p1.text)))])]⟩) (by kernel_rfl) ?_
  refine nil_in ?_
  refine next_in ?_
  refine block_in ?_
  exact loop_go (s' := stiLogic_L0 p0 p1 p2 0) (wk_ren [(13, .old 13)] (by kernel_rfl) (er_cons (vr_same (by kernel_rfl) (by kernel_rfl)) (er_cons (vr_same (by kernel_rfl) (by kernel_rfl)) (er_cons (vr_same (by kernel_rfl) (by kernel_rfl)) (er_cons (vr_same (by kernel_rfl) (by kernel_rfl)) (er_cons (vr_old (t := 13) (by kernel_rfl) (by kernel_rfl)) (er_cons (vr_same (by kernel_rfl) (by kernel_rfl)) (er_cons (vr_same (by kernel_rfl) (by kernel_rfl)) (er_nil)))))))) (br_same (by kernel_rfl) (by kernel_rfl) (br_same (by kernel_rfl) (by kernel_rfl) (br_same (by kernel_rfl) (by kernel_rfl) (br_nil))))) (OK_iLogic_L0 p0 p1 p2 0 _ h)
theorem OK_iTextValue (p0 : (List UInt8)) : FOk Try.prog 138 [(.d (.s (bs p0)))] (fun y => (vGValue y)) (iTextValue p0) := by
  intro r h
  rw [iTextValue] at h
  refine acalls_of_fn triTextValue (Nat.le_of_ble_eq_true rfl) (by simp) ?_
  show avc Try.prog aciTextValue (qiTextValue _) ⟨[(0, (.d (.s (bs p0))))], []⟩
  delta aciTextValue
  refine seq_in ?_
  refine ops_in ?_
  refine sts_ok 1 (s' := ⟨[(2, (.ptr 2 0)), (0, (.d (.s (bs p0))))], [(2, [(.d (.i .i64 0)), (.d (.i .i64 0)), (.d (.s (bs [])))])]⟩) (by kernel_rfl) ?_
  refine nil_in ?_
  refine next_in ?_
  refine seq_in ?_
  refine ops_in ?_
  refine sts_ok 3 (s' := ⟨[(4, (vGValue (GValue.mk 2 0 p0))), (3, (.d (.s (bs p0)))), (2, (.ptr 2 0)), (0, (.d (.s (bs p0))))], [(2, [(.d (.i .i64 2)), (.d (.i .i64 0)), (.d (.s (bs p0)))])]⟩) (by kernel_rfl) ?_
  refine nil_in ?_
  refine next_in ?_
  refine ret_in ?_
  have h := Option.some.inj h; subst h
  exact ret1_step (v := (vGValue (GValue.mk 2 0 p0))) (by kernel_rfl) (by kernel_rfl) (by kernel_rfl)
theorem OK_iValueOk (p0 : GValue) : FOk Try.prog 133 [(vGValue p0)] (fun y => (.d (.b y))) (iValueOk p0) := by
  intro r h
  rw [iValueOk] at h
  refine acalls_of_fn triValueOk (Nat.le_of_ble_eq_true rfl) (by simp) ?_
  show avc Try.prog aciValueOk (qiValueOk _) ⟨[(0, (vGValue p0))], []⟩
  delta aciValueOk
  refine seq_in ?_
  refine ops_in ?_
  refine sts_ok 2 (s' := ⟨[(2, (.d (.b false))), (1, (.ptr 1 0)), (0, (vGValue p0))], [(1, [(.d (.i .i64 p0.kind)), (.d (.i .i64 p0.num)), (.d (.s (bs p0.text)))])]⟩) (by kernel_rfl) ?_
  refine nil_in ?_
  refine next_in ?_
  refine seq_in ?_
  refine seq_in ?_
  refine ops_in ?_
  refine sts_ok 2 (s' := ⟨[(4, (.d (.i .i64 p0.kind))), (3, (.ptr 1 0)), (2, (.d (.b false))), (1, (.ptr 1 0)), (0, (vGValue p0))], [(1, [(.d (.i .i64 p0.kind)), (.d (.i .i64 p0.num)), (.d (.s (bs p0.text)))])]⟩) (by kernel_rfl) ?_
  refine nil_in ?_
  refine next_in ?_
  refine block_in ?_
  refine seq_in ?_
  refine ops_in ?_
  refine sts_ok 2 (s' := ⟨[(5, (.d (.b (decide (p0.kind = 0))))), (6, (.d (.b (decide (p0.kind = 0))))), (4, (.d (.i .i64 p0.kind))), (3, (.ptr 1 0)), (2, (.d (.b false))), (1, (.ptr 1 0)), (0, (vGValue p0))], [(1, [(.d (.i .i64 p0.kind)), (.d (.i .i64 p0.num)), (.d (.s (bs p0.text)))])]⟩) (by kernel_rfl) ?_
  refine nil_in ?_
  refine next_in ?_
  refine cond_step h (by kernel_rfl) ?_ ?_
  · clear h; intro h
    refine seq_in ?_
    refine ops_in ?_
    refine sts_ok 4 (s' := ⟨[(10, (.d (.b (decide (p0.num = 0))))), (9, (.d (.b (decide (p0.num = 0))))), (8, (.d (.i .i64 p0.num))), (7, (.ptr 1 1)), (5, (.d (.b (decide (p0.kind = 0))))), (6, (.d (.b (decide (p0.kind = 0))))), (4, (.d (.i .i64 p0.kind))), (3, (.ptr 1 0)), (2, (.d (.b false))), (1, (.ptr 1 0)), (0, (vGValue p0))], [(1, [(.d (.i .i64 p0.kind)), (.d (.i .i64 p0.num)), (.d (.s (bs p0.text)))])]⟩) (by kernel_rfl) ?_
    refine gp_step (p := true) (b := (decide (p0.num = 0))) (v' := (.ptr 1 2)) (by kernel_rfl) rfl rfl (fun hc => vop_val1 (by kernel_rfl) (by kernel_rfl)) ?_
    refine gp_step (p := true) (b := (decide (p0.num = 0))) (v' := (.d (.s (bs p0.text)))) (by kernel_rfl) rfl rfl (fun hc => vop_val1 (Eq.trans (b := ([(true && ((decide (p0.num = 0)) == true))] : List Bool).all id) (by kernel_rfl) (all_c hc rfl)) (by kernel_rfl)) ?_
    refine gp_step (p := true) (b := (decide (p0.num = 0))) (v' := (.d (.b (decide (p0.text = []))))) (by kernel_rfl) rfl rfl (fun hc => vop_val1 (Eq.trans (b := ([(true && ((decide (p0.num = 0)) == true))] : List Bool).all id) (by kernel_rfl) (all_c hc rfl)) (by kernel_rfl)) ?_
    refine p_step (v' := (.d (.b (if (decide (p0.num = 0)) = true then (decide (p0.text = [])) else false)))) rfl rfl (vop_pick (b := (decide (p0.num = 0))) (p := (true && ((decide (p0.num = 0)) == true))) (u := (decide (p0.text = []))) (q := true) (v := false) (by kernel_rfl) (by kernel_rfl) (by kernel_rfl) (by kernel_rfl) (fun hb => gc_t rfl hb) (fun _ => rfl)) ?_
    refine sts_ok 1 (s' := ⟨[(2, (.d (.b (if (decide (p0.num = 0)) = true then (decide (p0.text = [])) else false)))), (14, (.d (.b (if (decide (p0.num = 0)) = true then (decide (p0.text = [])) else false)))), (13, (.ite (true && ((decide (p0.num = 0)) == true)) (.d (.b (decide (p0.text = [])))))), (12, (.ite (true && ((decide (p0.num = 0)) == true)) (.d (.s (bs p0.text))))), (11, (.ite (true && ((decide (p0.num = 0)) == true)) (.ptr 1 2))), (10, (.d (.b (decide (p0.num = 0))))), (9, (.d (.b (decide (p0.num = 0))))), (8, (.d (.i .i64 p0.num))), (7, (.ptr 1 1)), (5, (.d (.b (decide (p0.kind = 0))))), (6, (.d (.b (decide (p0.kind = 0))))), (4, (.d (.i .i64 p0.kind))), (3, (.ptr 1 0)), (2, (.d (.b false))), (1, (.ptr 1 0)), (0, (vGValue p0))], [(1, [(.d (.i .i64 p0.kind)), (.d (.i .i64 p0.num)), (.d (.s (bs p0.text)))])]⟩) (by kernel_rfl) ?_
    refine nil_in ?_
    refine next_in ?_
    refine ret_in ?_
    refine blockK_ret ?_
    refine thenK_ret ?_
    have h := Option.some.inj h; subst h
    exact ret1_step (v := (.d (.b (if (decide (p0.num = 0)) = true then (decide (p0.text = [])) else false)))) (by kernel_rfl) (by kernel_rfl) (by kernel_rfl)
  · clear h; intro h
    refine seq_in ?_
    refine ops_in ?_
    refine sts_ok 2 (s' := ⟨[(15, (.d (.b (decide (p0.kind = 1))))), (16, (.d (.b (decide (p0.kind = 1))))), (5, (.d (.b (decide (p0.kind = 0))))), (6, (.d (.b (decide (p0.kind = 0))))), (4, (.d (.i .i64 p0.kind))), (3, (.ptr 1 0)), (2, (.d (.b false))), (1, (.ptr 1 0)), (0, (vGValue p0))], [(1, [(.d (.i .i64 p0.kind)), (.d (.i .i64 p0.num)), (.d (.s (bs p0.text)))])]⟩) (by kernel_rfl) ?_
    refine nil_in ?_
    refine next_in ?_
    refine cond_step h (by kernel_rfl) ?_ ?_
    · clear h; intro h
      refine seq_in ?_
      refine ops_in ?_
      refine sts_ok 4 (s' := ⟨[(2, (.d (.b (decide (p0.text = []))))), (19, (.d (.b (decide (p0.text = []))))), (18, (.d (.s (bs p0.text)))), (17, (.ptr 1 2)), (15, (.d (.b (decide (p0.kind = 1))))), (16, (.d (.b (decide (p0.kind = 1))))), (5, (.d (.b (decide (p0.kind = 0))))), (6, (.d (.b (decide (p0.kind = 0))))), (4, (.d (.i .i64 p0.kind))), (3, (.ptr 1 0)), (2, (.d (.b false))), (1, (.ptr 1 0)), (0, (vGValue p0))], [(1, [(.d (.i .i64 p0.kind)), (.d (.i .i64 p0.num)), (.d (.s (bs p0.text)))])]⟩) (by kernel_rfl) ?_
      refine nil_in ?_
      refine next_in ?_
      refine ret_in ?_
      refine blockK_ret ?_
      refine thenK_ret ?_
      have h := Option.some.inj h; subst h
      exact ret1_step (v := (.d (.b (decide (p0.text = []))))) (by kernel_rfl) (by kernel_rfl) (by kernel_rfl)
    · clear h; intro h
      refine seq_in ?_
      refine ops_in ?_
      refine sts_ok 2 (s' := ⟨[(20, (.d (.b (decide (p0.kind = 2))))), (21, (.d (.b (decide (p0.kind = 2))))), (15, (.d (.b (decide (p0.kind = 1))))), (16, (.d (.b (decide (p0.kind = 1))))), (5, (.d (.b (decide (p0.kind = 0))))), (6, (.d (.b (decide (p0.kind = 0))))), (4, (.d (.i .i64 p0.kind))), (3, (.ptr 1 0)), (2, (.d (.b false))), (1, (.ptr 1 0)), (0, (vGValue p0))], [(1, [(.d (.i .i64 p0.kind)), (.d (.i .i64 p0.num)), (.d (.s (bs p0.text)))])]⟩) (by kernel_rfl) ?_
      refine nil_in ?_
      refine next_in ?_
      refine cond_step h (by kernel_rfl) ?_ ?_
      · clear h; intro h
        refine seq_in ?_
        refine ops_in ?_
        refine sts_ok 4 (s' := ⟨[(25, (.d (.b (decide (p0.num = 0))))), (24, (.d (.b (decide (p0.num = 0))))), (23, (.d (.i .i64 p0.num))), (22, (.ptr 1 1)), (20, (.d (.b (decide (p0.kind = 2))))), (21, (.d (.b (decide (p0.kind = 2))))), (15, (.d (.b (decide (p0.kind = 1))))), (16, (.d (.b (decide (p0.kind = 1))))), (5, (.d (.b (decide (p0.kind = 0))))), (6, (.d (.b (decide (p0.kind = 0))))), (4, (.d (.i .i64 p0.kind))), (3, (.ptr 1 0)), (2, (.d (.b false))), (1, (.ptr 1 0)), (0, (vGValue p0))], [(1, [(.d (.i .i64 p0.kind)), (.d (.i .i64 p0.num)), (.d (.s (bs p0.text)))])]⟩) (by kernel_rfl) ?_
        refine gp_step (p := true) (b := (decide (p0.num = 0))) (v' := (.ptr 1 2)) (by kernel_rfl) rfl rfl (fun hc => vop_val1 (by kernel_rfl) (by kernel_rfl)) ?_
        refine gp_step (p := true) (b := (decide (p0.num = 0))) (v' := (.d (.s (bs p0.text)))) (by kernel_rfl) rfl rfl (fun hc => vop_val1 (Eq.trans (b := ([(true && ((decide (p0.num = 0)) == true))] : List Bool).all id) (by kernel_rfl) (all_c hc rfl)) (by kernel_rfl)) ?_
        refine gp_step (p := true) (b := (decide (p0.num = 0))) (v' := (.d (.i .i64 (p0.text.length : Int)))) (by kernel_rfl) rfl rfl (fun hc => vop_val1 (Eq.trans (b := ([(true && ((decide (p0.num = 0)) == true))] : List Bool).all id) (by kernel_rfl) (all_c hc rfl)) (by kernel_rfl)) ?_
        refine gp_step (p := true) (b := (decide (p0.num = 0))) (v' := (.d (.b (decide ((p0.text.length : Int) ≤ 200))))) (by kernel_rfl) rfl rfl (fun hc => vop_val1 (Eq.trans (b := ([(true && ((decide (p0.num = 0)) == true))] : List Bool).all id) (by kernel_rfl) (all_c hc rfl)) (by kernel_rfl)) ?_
        refine p_step (v' := (.d (.b (if (decide (p0.num = 0)) = true then (decide ((p0.text.length : Int) ≤ 200)) else false)))) rfl rfl (vop_pick (b := (decide (p0.num = 0))) (p := (true && ((decide (p0.num = 0)) == true))) (u := (decide ((p0.text.length : Int) ≤ 200))) (q := true) (v := false) (by kernel_rfl) (by kernel_rfl) (by kernel_rfl) (by kernel_rfl) (fun hb => gc_t rfl hb) (fun _ => rfl)) ?_
        refine sts_ok 1 (s' := ⟨[(2, (.d (.b (if (decide (p0.num = 0)) = true then (decide ((p0.text.length : Int) ≤ 200)) else false)))), (30, (.d (.b (if (decide (p0.num = 0)) = true then (decide ((p0.text.length : Int) ≤ 200)) else false)))), (29, (.ite (true && ((decide (p0.num = 0)) == true)) (.d (.b (decide ((p0.text.length : Int) ≤ 200)))))), (28, (.ite (true && ((decide (p0.num = 0)) == true)) (.d (.i .i64 (p0.text.length : Int))))), (27, (.ite (true && ((decide (p0.num = 0)) == true)) (.d (.s (bs p0.text))))), (26, (.ite (true && ((decide (p0.num = 0)) == true)) (.ptr 1 2))), (25, (.d (.b (decide (p0.num = 0))))), (24, (.d (.b (decide (p0.num = 0))))), (23, (.d (.i .i64 p0.num))), (22, (.ptr 1 1)), (20, (.d (.b (decide (p0.kind = 2))))), (21, (.d (.b (decide (p0.kind = 2))))), (15, (.d (.b (decide (p0.kind = 1))))), (16, (.d (.b (decide (p0.kind = 1))))), (5, (.d (.b (decide (p0.kind = 0))))), (6, (.d (.b (decide (p0.kind = 0))))), (4, (.d (.i .i64 p0.kind))), (3, (.ptr 1 0)), (2, (.d (.b false))), (1, (.ptr 1 0)), (0, (vGValue p0))], [(1, [(.d (.i .i64 p0.kind)), (.d (.i .i64 p0.num)), (.d (.s (bs p0.text)))])]⟩) (by kernel_rfl) ?_
        refine nil_in ?_
        refine next_in ?_
        refine ret_in ?_
        refine blockK_ret ?_
        refine thenK_ret ?_
        have h := Option.some.inj h; subst h
        exact ret1_step (v := (.d (.b (if (decide (p0.num = 0)) = true then (decide ((p0.text.length : Int) ≤ 200)) else false)))) (by kernel_rfl) (by kernel_rfl) (by kernel_rfl)
      · clear h; intro h
        refine seq_in ?_
        refine ops_in ?_
        refine sts_ok 2 (s' := ⟨[(31, (.d (.b (decide (p0.kind = 3))))), (32, (.d (.b (decide (p0.kind = 3))))), (20, (.d (.b (decide (p0.kind = 2))))), (21, (.d (.b (decide (p0.kind = 2))))), (15, (.d (.b (decide (p0.kind = 1))))), (16, (.d (.b (decide (p0.kind = 1))))), (5, (.d (.b (decide (p0.kind = 0))))), (6, (.d (.b (decide (p0.kind = 0))))), (4, (.d (.i .i64 p0.kind))), (3, (.ptr 1 0)), (2, (.d (.b false))), (1, (.ptr 1 0)), (0, (vGValue p0))], [(1, [(.d (.i .i64 p0.kind)), (.d (.i .i64 p0.num)), (.d (.s (bs p0.text)))])]⟩) (by kernel_rfl) ?_
        refine nil_in ?_
        refine next_in ?_
        refine cond_step h (by kernel_rfl) ?_ ?_
        · clear h; intro h
          refine seq_in ?_
          refine ops_in ?_
          refine sts_ok 4 (s' := ⟨[(36, (.d (.b (decide (p0.num = 0))))), (35, (.d (.b (decide (p0.num = 0))))), (34, (.d (.i .i64 p0.num))), (33, (.ptr 1 1)), (31, (.d (.b (decide (p0.kind = 3))))), (32, (.d (.b (decide (p0.kind = 3))))), (20, (.d (.b (decide (p0.kind = 2))))), (21, (.d (.b (decide (p0.kind = 2))))), (15, (.d (.b (decide (p0.kind = 1))))), (16, (.d (.b (decide (p0.kind = 1))))), (5, (.d (.b (decide (p0.kind = 0))))), (6, (.d (.b (decide (p0.kind = 0))))), (4, (.d (.i .i64 p0.kind))), (3, (.ptr 1 0)), (2, (.d (.b false))), (1, (.ptr 1 0)), (0, (vGValue p0))], [(1, [(.d (.i .i64 p0.kind)), (.d (.i .i64 p0.num)), (.d (.s (bs p0.text)))])]⟩) (by kernel_rfl) ?_
          refine gp_step (p := true) (b := (decide (p0.num = 0))) (v' := (.ptr 1 1)) (by kernel_rfl) rfl rfl (fun hc => vop_val1 (by kernel_rfl) (by kernel_rfl)) ?_
          refine gp_step (p := true) (b := (decide (p0.num = 0))) (v' := (.d (.i .i64 p0.num))) (by kernel_rfl) rfl rfl (fun hc => vop_val1 (Eq.trans (b := ([(true && ((decide (p0.num = 0)) == false))] : List Bool).all id) (by kernel_rfl) (all_c hc rfl)) (by kernel_rfl)) ?_
          refine gp_step (p := true) (b := (decide (p0.num = 0))) (v' := (.d (.b (decide (p0.num = 1))))) (by kernel_rfl) rfl rfl (fun hc => vop_val1 (Eq.trans (b := ([(true && ((decide (p0.num = 0)) == false))] : List Bool).all id) (by kernel_rfl) (all_c hc rfl)) (by kernel_rfl)) ?_
          refine p_step (v' := (.d (.b (if (decide (p0.num = 0)) = true then true else (decide (p0.num = 1)))))) rfl rfl (vop_pick (b := (decide (p0.num = 0))) (p := true) (u := true) (q := (true && ((decide (p0.num = 0)) == false))) (v := (decide (p0.num = 1))) (by kernel_rfl) (by kernel_rfl) (by kernel_rfl) (by kernel_rfl) (fun _ => rfl) (fun hb => gc_f rfl hb)) ?_
          refine sts_ok 1 (s' := ⟨[(41, (.d (.b (if (decide (p0.num = 0)) = true then true else (decide (p0.num = 1)))))), (40, (.d (.b (if (decide (p0.num = 0)) = true then true else (decide (p0.num = 1)))))), (39, (.ite (true && ((decide (p0.num = 0)) == false)) (.d (.b (decide (p0.num = 1)))))), (38, (.ite (true && ((decide (p0.num = 0)) == false)) (.d (.i .i64 p0.num)))), (37, (.ite (true && ((decide (p0.num = 0)) == false)) (.ptr 1 1))), (36, (.d (.b (decide (p0.num = 0))))), (35, (.d (.b (decide (p0.num = 0))))), (34, (.d (.i .i64 p0.num))), (33, (.ptr 1 1)), (31, (.d (.b (decide (p0.kind = 3))))), (32, (.d (.b (decide (p0.kind = 3))))), (20, (.d (.b (decide (p0.kind = 2))))), (21, (.d (.b (decide (p0.kind = 2))))), (15, (.d (.b (decide (p0.kind = 1))))), (16, (.d (.b (decide (p0.kind = 1))))), (5, (.d (.b (decide (p0.kind = 0))))), (6, (.d (.b (decide (p0.kind = 0))))), (4, (.d (.i .i64 p0.kind))), (3, (.ptr 1 0)), (2, (.d (.b false))), (1, (.ptr 1 0)), (0, (vGValue p0))], [(1, [(.d (.i .i64 p0.kind)), (.d (.i .i64 p0.num)), (.d (.s (bs p0.text)))])]⟩) (by kernel_rfl) ?_
          refine gp_step (p := true) (b := (if (decide (p0.num = 0)) = true then true else (decide (p0.num = 1)))) (v' := (.ptr 1 2)) (by kernel_rfl) rfl rfl (fun hc => vop_val1 (by kernel_rfl) (by kernel_rfl)) ?_
          refine gp_step (p := true) (b := (if (decide (p0.num = 0)) = true then true else (decide (p0.num = 1)))) (v' := (.d (.s (bs p0.text)))) (by kernel_rfl) rfl rfl (fun hc => vop_val1 (Eq.trans (b := ([(true && ((if (decide (p0.num = 0)) = true then true else (decide (p0.num = 1))) == true))] : List Bool).all id) (by kernel_rfl) (all_c hc rfl)) (by kernel_rfl)) ?_
          refine gp_step (p := true) (b := (if (decide (p0.num = 0)) = true then true else (decide (p0.num = 1)))) (v' := (.d (.b (decide (p0.text = []))))) (by kernel_rfl) rfl rfl (fun hc => vop_val1 (Eq.trans (b := ([(true && ((if (decide (p0.num = 0)) = true then true else (decide (p0.num = 1))) == true))] : List Bool).all id) (by kernel_rfl) (all_c hc rfl)) (by kernel_rfl)) ?_
          refine p_step (v' := (.d (.b (if (if (decide (p0.num = 0)) = true then true else (decide (p0.num = 1))) = true then (decide (p0.text = [])) else false)))) rfl rfl (vop_pick (b := (if (decide (p0.num = 0)) = true then true else (decide (p0.num = 1)))) (p := (true && ((if (decide (p0.num = 0)) = true then true else (decide (p0.num = 1))) == true))) (u := (decide (p0.text = []))) (q := true) (v := false) (by kernel_rfl) (by kernel_rfl) (by kernel_rfl) (by kernel_rfl) (fun hb => gc_t rfl hb) (fun _ => rfl)) ?_
          refine sts_ok 1 (s' := ⟨[(2, (.d (.b (if (if (decide (p0.num = 0)) = true then true else (decide (p0.num = 1))) = true then (decide (p0.text = [])) else false)))), (45, (.d (.b (if (if (decide (p0.num = 0)) = true then true else (decide (p0.num = 1))) = true then (decide (p0.text = [])) else false)))), (44, (.ite (true && ((if (decide (p0.num = 0)) = true then true else (decide (p0.num = 1))) == true)) (.d (.b (decide (p0.text = [])))))), (43, (.ite (true && ((if (decide (p0.num = 0)) = true then true else (decide (p0.num = 1))) == true)) (.d (.s (bs p0.text))))), (42, (.ite (true && ((if (decide (p0.num = 0)) = true then true else (decide (p0.num = 1))) == true)) (.ptr 1 2))), (41, (.d (.b (if (decide (p0.num = 0)) = true then true else (decide (p0.num = 1)))))), (40, (.d (.b (if (decide (p0.num = 0)) = true then true else (decide (p0.num = 1)))))), (39, (.ite (true && ((decide (p0.num = 0)) == false)) (.d (.b (decide (p0.num = 1)))))), (38, (.ite (true && ((decide (p0.num = 0)) == false)) (.d (.i .i64 p0.num)))), (37, (.ite (true && ((decide (p0.num = 0)) == false)) (.ptr 1 1))), (36, (.d (.b (decide (p0.num = 0))))), (35, (.d (.b (decide (p0.num = 0))))), (34, (.d (.i .i64 p0.num))), (33, (.ptr 1 1)), (31, (.d (.b (decide (p0.kind = 3))))), (32, (.d (.b (decide (p0.kind = 3))))), (20, (.d (.b (decide (p0.kind = 2))))), (21, (.d (.b (decide (p0.kind = 2))))), (15, (.d (.b (decide (p0.kind = 1))))), (16, (.d (.b (decide (p0.kind = 1))))), (5, (.d (.b (decide (p0.kind = 0))))), (6, (.d (.b (decide (p0.kind = 0))))), (4, (.d (.i .i64 p0.kind))), (3, (.ptr 1 0)), (2, (.d (.b false))), (1, (.ptr 1 0)), (0, (vGValue p0))], [(1, [(.d (.i .i64 p0.kind)), (.d (.i .i64 p0.num)), (.d (.s (bs p0.text)))])]⟩) (by kernel_rfl) ?_
          refine nil_in ?_
          refine next_in ?_
          refine ret_in ?_
          refine blockK_ret ?_
          refine thenK_ret ?_
          have h := Option.some.inj h; subst h
          exact ret1_step (v := (.d (.b (if (if (decide (p0.num = 0)) = true then true else (decide (p0.num = 1))) = true then (decide (p0.text = [])) else false)))) (by kernel_rfl) (by kernel_rfl) (by kernel_rfl)
        · clear h; intro h
          refine skip_in ?_
          refine blockK_norm ?_
          refine next_in ?_
          refine seq_in ?_
          refine ops_in ?_
          refine sts_ok 1 (s' := ⟨[(2, (.d (.b false))), (31, (.d (.b (decide (p0.kind = 3))))), (32, (.d (.b (decide (p0.kind = 3))))), (20, (.d (.b (decide (p0.kind = 2))))), (21, (.d (.b (decide (p0.kind = 2))))), (15, (.d (.b (decide (p0.kind = 1))))), (16, (.d (.b (decide (p0.kind = 1))))), (5, (.d (.b (decide (p0.kind = 0))))), (6, (.d (.b (decide (p0.kind = 0))))), (4, (.d (.i .i64 p0.kind))), (3, (.ptr 1 0)), (2, (.d (.b false))), (1, (.ptr 1 0)), (0, (vGValue p0))], [(1, [(.d (.i .i64 p0.kind)), (.d (.i .i64 p0.num)), (.d (.s (bs p0.text)))])]⟩) (by kernel_rfl) ?_
          refine nil_in ?_
          refine next_in ?_
          refine ret_in ?_
          have h := Option.some.inj h; subst h
          exact ret1_step (v := (.d (.b false))) (by kernel_rfl) (by kernel_rfl) (by kernel_rfl)
end Go.Proofs.Ytlohdmekmmjjlaa
