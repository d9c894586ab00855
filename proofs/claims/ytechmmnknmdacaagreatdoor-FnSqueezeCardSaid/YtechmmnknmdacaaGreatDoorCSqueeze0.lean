/- That the code computes these functions (printed by a program). -/
import Derived.Lib.Builder
import Derived.Lib.UnsafeStr
import Derived.Test.YtechmmnknmdacaaGreatDoorAbB
import Derived.Test.YtechmmnknmdacaaGreatDoorAbP
import Derived.Test.YtechmmnknmdacaaGreatDoorAbQ
import Derived.KernelRfl
import Derived.Test.YtechmmnknmdacaaGreatDoorAbG2
import Derived.Test.YtechmmnknmdacaaGreatDoorAbC3
import Derived.Test.YtechmmnknmdacaaGreatDoorAbT7
import Derived.Test.YtechmmnknmdacaaGreatDoorFSqueeze
import Derived.Test.YtechmmnknmdacaaGreatDoorProg
namespace Go.Proofs.YtechmmnknmdacaaGreatDoor
open Go Go.RowKit Go.Ab
theorem kr {p : Prop} (h : p := by kernel_rfl) : p := h
def cI (n:Int):List D:=[.i .i64 n]
def cU8 (n:Int):List D:=[.i .u8 n]
def cU64 (n:Int):List D:=[.i .u64 n]
def cI32 (n:Int):List D:=[.i .i32 n]
def cU32 (n:Int):List D:=[.i .u32 n]
def cB (b:Bool):List D:=[.b b]
def cStr (s:List UInt8):List D:=[.s (bs s)]
def cSl {α:Type} (sz:Nat) (f:α → List D) (l:List α):List D:=[.sl sz (l.map f)]
def cGL1Cur (x:GL1Cur):List D:=[(.sl 1 (x.b.map cU8)),(.i .i64 x.i),(.i .i64 x.h)]
def vGL1Cur (x:GL1Cur):V:=.agg (cGL1Cur x)
def bGL1Cur (x:GL1Cur):List V:=(cGL1Cur x).map V.d
def cGToken (x:GToken):List D:=[(.i .i64 x.kind),(.s (bs x.text)),(.i .i64 x.at_)]
def vGToken (x:GToken):V:=.agg (cGToken x)
def bGToken (x:GToken):List V:=(cGToken x).map V.d
def acwFnSqueeze:AC:=(.seq (.ops [.asg 2 (kB false)]) (.seq (.seq (.ops [.mv 10 0, .call (some 11) 16 [10]]) (.cond 11 (.seq (.ops [.asg 2 (kB true)]) .ret) .skip)) (.seq (.ops [.mv 12 0, .call (some 13) 27 [12], .asg 3 13]) (.seq (.ops [.mv 15 3, .call (some 16) 21 [15], .mv 14 16, .ext 17 14 0, .ext 18 14 1, .asg 4 17, .asg 5 18]) (.seq (.ops [.mv 20 3, .call (some 21) 20 [20], .mv 19 21, .ext 22 19 0, .ext 23 19 1, .asg 6 22, .asg 7 23]) (.seq (.seq (.ops [.mv 24 5, .mv 25 7, .bin 26 .neq 24 25]) (.cond 26 (.seq (.ops [.asg 2 (kB false)]) .ret) .skip)) (.seq (.seq (.ops [.mv 27 5, .bin 28 .geq 27 (kI 0)]) (.cond 28 (.seq (.ops [.mv 29 4, .bin 30 .eql 29 (.c (.d (.s (bs [])))), .asg 2 30]) .ret) .skip)) (.seq (.ops [.mv 32 4, .call (some 33) 21 [32], .mv 31 33, .ext 34 31 0, .ext 35 31 1, .asg 8 34, .asg 9 35]) (.seq (.ops [.mv 36 9, .bin 37 .eql 36 (kI (-1)), .mv 38 37, .g 38 true (.mv 39 8), .g 38 true (.mv 40 4), .g 38 true (.bin 41 .eql 39 40), .pick 42 38 41 (kB false), .mv 43 42, .g 43 true (.mv 44 4), .g 43 true (.lns 45 44), .g 43 true (.mv 46 3), .g 43 true (.lns 47 46), .g 43 true (.bin 48 .add 47 (kI 20)), .g 43 true (.bin 49 .leq 45 48), .pick 50 43 49 (kB false), .asg 2 50]) .ret)))))))))
theorem trwFnSqueeze:trFn Tryz.prog 8 = some (acwFnSqueeze, [.mv 0 2], 51):=by kernel_rfl
def qwFnSqueeze (r:Bool):Exit → St → Prop:=retQ [.mv 0 2] fun x _ => x = (fun y => (vB y)) r
def acsL1New_L0:AC:=(.loop (.seq (.seq (.ops [.mv 8 4, .mv 9 0, .len 10 9, .bin 11 .lss 8 10, .mv 12 11, .g 12 true (.mv 13 4), .g 12 true (.bin 14 .lss 13 (kI 4000)), .pick 15 12 14 (kB false)]) (.cond 15 .skip (.exit 0))) (.seq (.block 1 (.ops [.mv 18 3, .bin 19 .mul 18 (kI 131), .mv 20 0, .mv 21 4, .ia 22 1 20 21, .ld 23 1 false 22, .cvi 24 .i64 23, .bin 25 .add 19 24, .bin 26 .add 25 (kI 7), .bin 27 .and 26 (kI 1073741823), .asg 3 27])) (.ops [.mv 16 4, .bin 17 .add 16 (kI 1), .asg 4 17]))))
def acsL1New:AC:=(.seq (.ops [.asg 2 (.c .np)]) (.seq (.ops [.mv 5 0, .len 6 5, .bin 7 .add (kI 28322) 6, .asg 3 7]) (.seq (.seq (.ops [.asg 4 (kI 0)]) (.block 0 acsL1New_L0)) (.seq (.ops [.mv 28 0, .mv 29 3, .bld 30 [(.nil 1),(.d (.i .i64 0)),(.d (.i .i64 0))] [(0, 1, 28),(2, 1, 29)], .box 31 86 30, .asg 2 31]) .ret))))
theorem trsL1New:trFn Tryz.prog 36 = some (acsL1New, [.mv 0 2], 32):=by kernel_rfl
def qsL1New (r:GL1Cur):Exit → St → Prop:=retQ [.mv 0 2] fun x b => x = (fun (y:GL1Cur) => (.ptr 31 0)) r ∧ bxHas ((fun (y:GL1Cur) => [(31, bGL1Cur y)]) r) b
def qsL1New_0 (r:GL1Cur):Exit → St → Prop:=(thenK (wkK (avc Tryz.prog (.seq (.ops [.mv 28 0, .mv 29 3, .bld 30 [(.nil 1),(.d (.i .i64 0)),(.d (.i .i64 0))] [(0, 1, 28),(2, 1, 29)], .box 31 86 30, .asg 2 31]) .ret) (qsL1New r))) (qsL1New r))
def qsL1New_1 (r:GL1Cur):Exit → St → Prop:=(blockK 0 (qsL1New_0 r))
def stsL1New_L0 (p0:(List Int)) (x3:Int) (x4:Int):St:=⟨[(0,(.d (.sl 1 (p0.map cU8)))),(3,(vI x3)),(4,(vI x4))], []⟩
def acsSqueeze:AC:=(.seq (.ops [.asg 2 (.c (.d (.s (bs [])))), .asg 3 (kI 0)]) (.seq (.ops [.mv 7 0, .call (some 8) 39 [7], .mv 6 8, .ext 9 6 0, .ext 10 6 1, .asg 4 9, .asg 5 10]) (.seq (.seq (.ops [.mv 11 5, .bin 12 .geq 11 (kI 0)]) (.cond 12 (.seq (.ops [.mv 13 5, .asg 2 (.c (.d (.s (bs [])))), .asg 3 13]) .ret) .skip)) (.seq (.ops [.mv 14 4, .call (some 15) 14 [14], .asg 2 15, .asg 3 (kI (-1))]) .ret))))
theorem trsSqueeze:trFn Tryz.prog 20 = some (acsSqueeze, [.mv 0 2, .mv 0 3], 16):=by kernel_rfl
def qsSqueeze (r:(List UInt8) × Int):Exit → St → Prop:=retQ [.mv 0 2, .mv 0 3] fun x _ => x = (fun y => (.tup [(vS y.1),(vI y.2)])) r
def acsLex_L0:AC:=(.loop (.block 1 (.seq (.ops [.mv 13 0, .mv 14 5, .call (some 15) 71 [13, 14], .asg 5 15]) (.seq (.seq (.ops [.mv 16 5, .bin 17 .lss 16 (kI 0)]) (.cond 17 (.seq (.ops [.bsl 18 53 3 [], .mv 19 5, .neg 20 19, .bin 21 .sub 20 (kI 1), .asg 2 18, .asg 3 21]) .ret) .skip)) (.seq (.seq (.ops [.mv 22 5, .mv 23 0, .lns 24 23, .bin 25 .geq 22 24]) (.cond 25 (.seq (.ops [.mv 26 4, .asg 2 26, .asg 3 (kI (-1))]) .ret) .skip)) (.seq (.ops [.mv 28 0, .mv 29 5, .call (some 30) 72 [28, 29], .mv 27 30, .ext 31 27 0, .ext 32 27 1, .alc 6 [(.d (.i .i64 0)),(.d (.s (bs []))),(.d (.i .i64 0))], .st 3 6 31, .asg 7 32]) (.seq (.seq (.ops [.mv 33 7, .bin 34 .lss 33 (kI 0)]) (.cond 34 (.seq (.ops [.bsl 35 53 3 [], .mv 36 5, .asg 2 35, .asg 3 36]) .ret) .skip)) (.seq (.ops [.mv 37 4, .ld 38 3 true 6, .bsl 39 53 3 [38], .app 40 53 3 32 37 39, .asg 4 40]) (.ops [.mv 41 7, .asg 5 41])))))))))
def acsLex:AC:=(.seq (.ops [.asg 2 (.c (.nil 3)), .asg 3 (kI 0)]) (.seq (.ops [.bsl 8 53 3 [], .asg 4 8]) (.seq (.seq (.ops [.mv 9 0, .lns 10 9, .bin 11 .gtr 10 (kI 2000)]) (.cond 11 (.seq (.ops [.mv 12 4, .asg 2 12, .asg 3 (kI 2000)]) .ret) .skip)) (.seq (.ops [.asg 5 (kI 0)]) (.block 0 acsLex_L0)))))
theorem trsLex:trFn Tryz.prog 39 = some (acsLex, [.mv 0 2, .mv 0 3], 42):=by kernel_rfl
def qsLex (r:(List GToken) × Int):Exit → St → Prop:=retQ [.mv 0 2, .mv 0 3] fun x b => x = (fun (y:(List GToken) × Int) => (.tup [(.osl 2000000 53 3 (y.1.map cGToken)),(vI y.2)])) r ∧ bxHas ((fun (y:(List GToken) × Int) => []) r) b
def qsLex_0 (r:(List GToken) × Int):Exit → St → Prop:=(blockK 0 (qsLex r))
def stsLex_L0 (p0:(List UInt8)) (x4:(List GToken)) (x5:Int):St:=⟨[(0,(vS p0)),(4,(.osl 4 53 3 (x4.map cGToken))),(5,(vI x5))], []⟩
def acsL3One_J0:AC:=(.seq (.seq (.ops [.mv 96 7, .bin 97 .lss 96 (kI 0), .mv 98 97, .g 98 false (.ld 99 3 true 6), .g 98 false (.call (some 100) 48 [99]), .g 98 false (.not 101 100), .pick 102 98 (kB true) 101]) (.cond 102 (.seq (.ops [.ld 103 3 true 6, .st 3 4 103, .asg 5 (kI (-1))]) .ret) .skip)) (.seq (.ops [.ld 104 3 true 6, .mv 105 7, .st 3 4 104, .asg 5 105]) .ret))
def acsL3One_J1:AC:=(.ops [.mv 28 0, .mv 29 1, .mv 30 7, .sls 31 28 (some 29) (some 30), .fa 32 1 6, .st 1 32 31])
def acsL3One:AC:=(.seq (.ops [.alc 4 [(.d (.i .i64 0)),(.d (.s (bs []))),(.d (.i .i64 0))], .asg 5 (kI 0)]) (.seq (.ops [.mv 8 1, .bld 9 [(.d (.i .i64 0)),(.d (.s (bs []))),(.d (.i .i64 0))] [(2, 1, 8)], .alc 6 [(.d (.i .i64 0)),(.d (.s (bs []))),(.d (.i .i64 0))], .st 3 6 9]) (.seq (.ops [.mv 10 1, .bin 11 .add 10 (kI 1), .asg 7 11]) (.seq (.block 0 (.seq (.ops [.mv 34 0, .mv 35 1, .ix 36 34 35, .call (some 37) 116 [36], .asg 33 37]) (.cond 33 (.seq (.ops [.mv 38 0, .mv 39 1, .call (some 40) 117 [38, 39], .asg 7 40]) (.seq (.ops [.fa 41 0 6, .st 1 41 (kI 2)]) (.seq (.ops [.mv 42 0, .mv 43 1, .mv 44 7, .sls 45 42 (some 43) (some 44), .fa 46 1 6, .st 1 46 45]) (.seq (.ops [.fa 47 1 6, .ld 48 1 false 47, .call (some 49) 93 [48], .bin 50 .gtr 49 (kI 0)]) (.cond 50 (.seq (.ops [.fa 51 0 6, .st 1 51 (kI 1)]) (.ops [.fa 52 1 6, .ld 53 1 false 52, .call (some 54) 92 [53], .fa 55 1 6, .st 1 55 54])) .skip))))) (.seq (.ops [.mv 57 0, .mv 58 1, .ix 59 57 58, .call (some 60) 118 [59], .asg 56 60]) (.cond 56 (.seq (.ops [.mv 61 0, .mv 62 1, .call (some 63) 117 [61, 62], .asg 7 63]) (.seq (.ops [.fa 64 0 6, .st 1 64 (kI 3)]) (.ops [.mv 65 0, .mv 66 1, .mv 67 7, .sls 68 65 (some 66) (some 67), .fa 69 1 6, .st 1 69 68]))) (.seq (.ops [.mv 71 0, .mv 72 1, .ix 73 71 72, .bin 74 .eql 73 (.c (.d (.i .u8 34))), .asg 70 74]) (.cond 70 (.seq (.ops [.fa 75 0 6, .st 1 75 (kI 2)]) (.ops [.mv 77 0, .mv 78 1, .call (some 79) 119 [77, 78], .mv 76 79, .ext 80 76 0, .ext 81 76 1, .fa 82 1 6, .st 1 82 80, .asg 7 81])) (.seq (.ops [.mv 84 0, .mv 85 1, .ix 86 84 85, .bin 87 .eql 86 (.c (.d (.i .u8 39))), .asg 83 87]) (.cond 83 (.seq (.ops [.fa 88 0 6, .st 1 88 (kI 4)]) (.ops [.mv 90 0, .mv 91 1, .call (some 92) 119 [90, 91], .mv 89 92, .ext 93 89 0, .ext 94 89 1, .fa 95 1 6, .st 1 95 93, .asg 7 94])) (.seq (.ops [.fa 12 0 6, .st 1 12 (kI 5)]) (.seq (.seq (.ops [.mv 13 1, .bin 14 .add 13 (kI 2), .mv 15 0, .lns 16 15, .bin 17 .leq 14 16, .mv 18 17, .g 18 true (.mv 19 0), .g 18 true (.mv 20 1), .g 18 true (.mv 21 1), .g 18 true (.bin 22 .add 21 (kI 2)), .g 18 true (.sls 23 19 (some 20) (some 22)), .g 18 true (.call (some 24) 95 [23]), .pick 25 18 24 (kB false)]) (.cond 25 (.ops [.mv 26 1, .bin 27 .add 26 (kI 2), .asg 7 27]) .skip)) acsL3One_J1))))))))))) acsL3One_J0))))
theorem trsL3One:trFn Tryz.prog 72 = some (acsL3One, [.ld 0 3 true 4, .mv 0 5], 106):=by kernel_rfl
def qsL3One (r:GToken × Int):Exit → St → Prop:=retQ [.ld 0 3 true 4, .mv 0 5] fun x _ => x = (fun y => (.tup [(vGToken y.1),(vI y.2)])) r
def qsL3One_0 (r:GToken × Int):Exit → St → Prop:=(thenK (wkK (avc Tryz.prog acsL3One_J0 (qsL3One r))) (qsL3One r))
def qsL3One_1 (r:GToken × Int):Exit → St → Prop:=(blockK 0 (qsL3One_0 r))
def stsL3One_J0 (p1:Int) (x7:Int) (b6_0:Int) (b6_1:(List UInt8)):St:=⟨[(4,(.ptr 4 0)),(6,(.ptr 6 0)),(7,(vI x7))], [(4, [(vI 0),(vS []),(vI 0)]),(6, bGToken (GToken.mk b6_0 b6_1 p1))]⟩
def stsL3One_J1 (p0:(List UInt8)) (p1:Int) (x7_18:Int):St:=⟨[(0,(vS p0)),(1,(vI p1)),(4,(.ptr 4 0)),(6,(.ptr 6 0)),(7,(vI x7_18))], [(4, [(vI 0),(vS []),(vI 0)]),(6, bGToken (GToken.mk 5 [] p1))]⟩
def acsKeyOf_L0:AC:=(.loop (.seq (.seq (.ops [.mv 12 5, .mv 13 4, .len 14 13, .bin 15 .lss 12 14]) (.cond 15 .skip (.exit 0))) (.seq (.block 1 (.seq (.ops [.mv 18 4, .mv 19 5, .ia 20 1 18 19, .ld 21 1 false 20, .mv 22 3, .bin 23 .eql 21 22]) (.cond 23 (.seq (.ops [.mv 24 5, .asg 2 24]) .ret) .skip))) (.ops [.mv 16 5, .bin 17 .add 16 (kI 1), .asg 5 17]))))
def acsKeyOf:AC:=(.seq (.ops [.asg 2 (kI 0)]) (.seq (.seq (.ops [.mv 6 0, .lns 7 6, .bin 8 .gtr 7 (kI 8)]) (.cond 8 (.seq (.ops [.asg 2 (kI 0)]) .ret) .skip)) (.seq (.ops [.mv 9 0, .call (some 10) 92 [9], .asg 3 10]) (.seq (.ops [.call (some 11) 127 [], .asg 4 11]) (.seq (.seq (.ops [.asg 5 (kI 1)]) (.block 0 acsKeyOf_L0)) (.seq (.ops [.asg 2 (kI 0)]) .ret))))))
theorem trsKeyOf:trFn Tryz.prog 93 = some (acsKeyOf, [.mv 0 2], 25):=by kernel_rfl
def qsKeyOf (r:Int):Exit → St → Prop:=retQ [.mv 0 2] fun x _ => x = (fun y => (vI y)) r
def qsKeyOf_0 (r:Int):Exit → St → Prop:=(thenK (wkK (avc Tryz.prog (.seq (.ops [.asg 2 (.c (.d (.i .i64 0)))]) .ret) (qsKeyOf r))) (qsKeyOf r))
def qsKeyOf_1 (r:Int):Exit → St → Prop:=(blockK 0 (qsKeyOf_0 r))
def stsKeyOf_L0 (y1:(List UInt8)) (y2:(List (List UInt8))) (x5:Int):St:=⟨[(3,(vS y1)),(4,(.osl 4 9 1 (y2.map cStr))),(5,(vI x5))], []⟩
def acsFold_J1:AC:=(.ops [.mv 11 4, .bin 12 .add 11 (kI 1), .asg 4 12])
def acsFold_L0:AC:=(.loop (.seq (.seq (.ops [.mv 7 4, .mv 8 3, .len 9 8, .bin 10 .lss 7 9]) (.cond 10 .skip (.exit 0))) (.seq (.block 1 (.seq (.ops [.mv 13 3, .mv 14 4, .ia 15 1 13 14, .ld 16 1 false 15, .bin 17 .geq 16 (.c (.d (.i .u8 97))), .mv 18 17, .g 18 true (.mv 19 3), .g 18 true (.mv 20 4), .g 18 true (.ia 21 1 19 20), .g 18 true (.ld 22 1 false 21), .g 18 true (.bin 23 .leq 22 (.c (.d (.i .u8 122)))), .pick 24 18 23 (kB false)]) (.cond 24 (.ops [.mv 25 3, .mv 26 4, .mv 27 3, .mv 28 4, .ia 29 1 27 28, .ld 30 1 false 29, .bin 31 .sub 30 (.c (.d (.i .u8 32))), .ia 32 1 25 26, .st 1 32 31]) .skip))) acsFold_J1)))
def acsFold_J2:AC:=(.seq (.ops [.mv 33 3, .cbs 34 33, .asg 2 34]) .ret)
def acsFold:AC:=(.seq (.ops [.asg 2 (.c (.d (.s (bs []))))]) (.seq (.ops [.mv 5 0, .csb 6 5 5, .asg 3 6]) (.seq (.seq (.ops [.asg 4 (kI 0)]) (.block 0 acsFold_L0)) acsFold_J2)))
theorem trsFold:trFn Tryz.prog 92 = some (acsFold, [.mv 0 2], 35):=by kernel_rfl
def qsFold (r:(List UInt8)):Exit → St → Prop:=retQ [.mv 0 2] fun x _ => x = (fun y => (vS y)) r
def qsFold_0 (r:(List UInt8)):Exit → St → Prop:=(thenK (wkK (avc Tryz.prog acsFold_J2 (qsFold r))) (qsFold r))
def qsFold_1 (r:(List UInt8)):Exit → St → Prop:=(blockK 0 (qsFold_0 r))
def qsFold_2 (r:(List UInt8)):Exit → St → Prop:=(thenK (avc Tryz.prog acsFold_L0 (qsFold_1 r)) (qsFold_1 r))
def stsFold_L0 (x4:Int) (b60013000_0:(List Int)):St:=⟨[(3,(.tre 60013000)),(4,(vI x4))], [(60013000, [(.trc 1 (b60013000_0.map cU8))])]⟩
def stsFold_J1 (x4:Int) (b60052000_0:(List Int)):St:=⟨[(3,(.tre 60052000)),(4,(vI x4))], [(60052000, [(.trc 1 (b60052000_0.map cU8))])]⟩
def stsFold_J2 (x3:(List Int)):St:=⟨[(3,(.d (.sl 1 (x3.map cU8))))], []⟩
def acsL2Words:AC:=(.seq (.ops [.asg 0 (.c (.nil 1))]) (.seq (.ops [.bsl 1 9 1 [(.c (.d (.s (bs [])))),(.c (.d (.s (bs [83, 69, 76, 69, 67, 84])))),(.c (.d (.s (bs [68, 73, 83, 84, 73, 78, 67, 84])))),(.c (.d (.s (bs [70, 82, 79, 77])))),(.c (.d (.s (bs [74, 79, 73, 78])))),(.c (.d (.s (bs [79, 78])))),(.c (.d (.s (bs [87, 72, 69, 82, 69])))),(.c (.d (.s (bs [79, 82, 68, 69, 82])))),(.c (.d (.s (bs [66, 89])))),(.c (.d (.s (bs [65, 83, 67])))),(.c (.d (.s (bs [68, 69, 83, 67])))),(.c (.d (.s (bs [76, 73, 77, 73, 84])))),(.c (.d (.s (bs [65, 83])))),(.c (.d (.s (bs [65, 78, 68])))),(.c (.d (.s (bs [79, 82])))),(.c (.d (.s (bs [78, 79, 84])))),(.c (.d (.s (bs [73, 83])))),(.c (.d (.s (bs [73, 78])))),(.c (.d (.s (bs [66, 69, 84, 87, 69, 69, 78])))),(.c (.d (.s (bs [69, 88, 73, 83, 84, 83])))),(.c (.d (.s (bs [78, 85, 76, 76])))),(.c (.d (.s (bs [84, 82, 85, 69])))),(.c (.d (.s (bs [70, 65, 76, 83, 69])))),(.c (.d (.s (bs [73, 78, 83, 69, 82, 84])))),(.c (.d (.s (bs [73, 78, 84, 79])))),(.c (.d (.s (bs [86, 65, 76, 85, 69, 83])))),(.c (.d (.s (bs [85, 80, 68, 65, 84, 69])))),(.c (.d (.s (bs [83, 69, 84])))),(.c (.d (.s (bs [68, 69, 76, 69, 84, 69]))))], .asg 0 1]) .ret))
theorem trsL2Words:trFn Tryz.prog 127 = some (acsL2Words, [.mv 0 0], 2):=by kernel_rfl
def qsL2Words (r:(List (List UInt8))):Exit → St → Prop:=retQ [.mv 0 0] fun x b => x = (fun (y:(List (List UInt8))) => (.osl 2000000 9 1 (y.map cStr))) r ∧ bxHas ((fun (y:(List (List UInt8))) => []) r) b
def acsL3Quoted_J1:AC:=(.ops [.mv 19 8, .bin 20 .add 19 (kI 1), .asg 8 20])
def acsL3Quoted_L0:AC:=(.loop (.seq (.seq (.ops [.mv 15 8, .mv 16 0, .lns 17 16, .bin 18 .lss 15 17]) (.cond 18 .skip (.exit 0))) (.seq (.block 1 (.seq (.seq (.ops [.mv 21 0, .mv 22 8, .ix 23 21 22, .mv 24 6, .bin 25 .neq 23 24]) (.cond 25 (.seq (.ops [.mv 26 7, .mv 27 0, .mv 28 8, .ix 29 27 28, .bsl 30 5 1 [29], .app 31 5 1 1 26 30, .asg 7 31]) (.exit 1)) .skip)) (.seq (.seq (.ops [.mv 32 8, .bin 33 .add 32 (kI 1), .mv 34 0, .lns 35 34, .bin 36 .geq 33 35, .mv 37 36, .g 37 false (.mv 38 0), .g 37 false (.mv 39 8), .g 37 false (.bin 40 .add 39 (kI 1)), .g 37 false (.ix 41 38 40), .g 37 false (.mv 42 6), .g 37 false (.bin 43 .neq 41 42), .pick 44 37 (kB true) 43]) (.cond 44 (.seq (.ops [.mv 45 7, .cbs 46 45, .mv 47 8, .bin 48 .add 47 (kI 1), .asg 4 46, .asg 5 48]) .ret) .skip)) (.seq (.ops [.mv 49 7, .mv 50 6, .bsl 51 5 1 [50], .app 52 5 1 1 49 51, .asg 7 52]) (.ops [.mv 53 8, .bin 54 .add 53 (kI 1), .asg 8 54]))))) acsL3Quoted_J1)))
def acsL3Quoted:AC:=(.seq (.ops [.asg 4 (.c (.d (.s (bs [])))), .asg 5 (kI 0)]) (.seq (.ops [.mv 9 0, .mv 10 1, .ix 11 9 10, .asg 6 11]) (.seq (.ops [.bsl 12 5 1 [], .asg 7 12]) (.seq (.seq (.ops [.mv 13 1, .bin 14 .add 13 (kI 1), .asg 8 14]) (.block 0 acsL3Quoted_L0)) (.seq (.ops [.asg 4 (.c (.d (.s (bs [])))), .asg 5 (kI (-1))]) .ret)))))
theorem trsL3Quoted:trFn Tryz.prog 119 = some (acsL3Quoted, [.mv 0 4, .mv 0 5], 55):=by kernel_rfl
def qsL3Quoted (r:(List UInt8) × Int):Exit → St → Prop:=retQ [.mv 0 4, .mv 0 5] fun x _ => x = (fun y => (.tup [(vS y.1),(vI y.2)])) r
def qsL3Quoted_0 (r:(List UInt8) × Int):Exit → St → Prop:=(thenK (wkK (avc Tryz.prog (.seq (.ops [.asg 4 (.c (.d (.s (bs [])))), .asg 5 (.c (.d (.i .i64 (-1))))]) .ret) (qsL3Quoted r))) (qsL3Quoted r))
def qsL3Quoted_1 (r:(List UInt8) × Int):Exit → St → Prop:=(blockK 0 (qsL3Quoted_0 r))
def qsL3Quoted_2 (r:(List UInt8) × Int):Exit → St → Prop:=(thenK (avc Tryz.prog acsL3Quoted_L0 (qsL3Quoted_1 r)) (qsL3Quoted_1 r))
def stsL3Quoted_L0 (p0:(List UInt8)) (y1:Int) (x7:(List Int)) (x8:Int):St:=⟨[(0,(vS p0)),(6,(.d (.i .u8 y1))),(7,(.osl 7 5 1 (x7.map cU8))),(8,(vI x8))], []⟩
def stsL3Quoted_J1 (p0:(List UInt8)) (y1:Int) (x7_5:(List Int)) (x8_6:Int):St:=⟨[(0,(vS p0)),(6,(.d (.i .u8 y1))),(7,(.osl 7 5 1 (x7_5.map cU8))),(8,(vI x8_6))], []⟩
def acsTokenOk:AC:=(.seq (.ops [.box 1 53 0, .asg 2 (kB false)]) (.seq (.seq (.ops [.fa 5 0 1, .ld 6 1 false 5]) (.block 0 (.seq (.ops [.bin 8 .eql 6 (kI 1), .asg 7 8]) (.cond 7 (.seq (.dops [[], [0], [1], [2], [3, 2], [4], [5, 4], [6, 4, 4], [4], [8, 4], [7, 9, 4], [4, 10], [11, 7, 0, 1, 2, 3, 4, 5, 6, 7, 8, 9, 10, 11]] [.fa 9 1 1, .ld 10 1 false 9, .call (some 11) 93 [10], .bin 12 .gtr 11 (kI 0), .mv 13 12, .g 13 true (.fa 14 1 1), .g 13 true (.ld 15 1 false 14), .g 13 true (.call (some 16) 92 [15]), .g 13 true (.fa 17 1 1), .g 13 true (.ld 18 1 false 17), .g 13 true (.bin 19 .eql 16 18), .pick 20 13 19 (kB false), .asg 2 20]) .ret) (.seq (.ops [.bin 22 .eql 6 (kI 2), .asg 21 22]) (.cond 21 (.seq (.ops [.fa 23 1 1, .ld 24 1 false 23, .call (some 25) 74 [24], .asg 2 25]) .ret) (.seq (.ops [.bin 27 .eql 6 (kI 3), .asg 26 27]) (.cond 26 (.seq (.ops [.fa 29 1 1, .ld 30 1 false 29, .call (some 31) 94 [30], .mv 28 31, .ext 32 28 0, .ext 33 28 1, .asg 3 32, .asg 4 33]) (.seq (.ops [.mv 34 4, .asg 2 34]) .ret)) (.seq (.ops [.bin 36 .eql 6 (kI 4), .asg 35 36]) (.cond 35 (.seq (.ops [.fa 37 1 1, .ld 38 1 false 37, .lns 39 38, .bin 40 .leq 39 (kI 40), .asg 2 40]) .ret) (.seq (.ops [.bin 42 .eql 6 (kI 5), .asg 41 42]) (.cond 41 (.seq (.ops [.fa 43 1 1, .ld 44 1 false 43, .call (some 45) 95 [44], .asg 2 45]) .ret) .skip)))))))))))) (.seq (.ops [.asg 2 (kB false)]) .ret)))
theorem trsTokenOk:trFn Tryz.prog 48 = some (acsTokenOk, [.mv 0 2], 46):=by kernel_rfl
def qsTokenOk (r:Bool):Exit → St → Prop:=retQ [.mv 0 2] fun x _ => x = (fun y => (vB y)) r
def acsNameOk:AC:=(.seq (.ops [.asg 2 (kB false)]) (.seq (.ops [.mv 3 0, .lns 4 3, .call (some 5) 76 [4,(kI 1),(kI 20)], .asg 2 5]) .ret))
theorem trsNameOk:trFn Tryz.prog 74 = some (acsNameOk, [.mv 0 2], 6):=by kernel_rfl
def qsNameOk (r:Bool):Exit → St → Prop:=retQ [.mv 0 2] fun x _ => x = (fun y => (vB y)) r
def acsL1In:AC:=(.seq (.ops [.asg 6 (kB false)]) (.seq (.ops [.mv 7 0, .mv 8 1, .bin 9 .geq 7 8, .mv 10 9, .g 10 true (.mv 11 0), .g 10 true (.mv 12 2), .g 10 true (.bin 13 .leq 11 12), .pick 14 10 13 (kB false), .asg 6 14]) .ret))
theorem trsL1In:trFn Tryz.prog 76 = some (acsL1In, [.mv 0 6], 15):=by kernel_rfl
def qsL1In (r:Bool):Exit → St → Prop:=retQ [.mv 0 6] fun x _ => x = (fun y => (vB y)) r
def acsSignOk_J0:AC:=(.cond 4 (.seq (.ops [.asg 2 (kB true)]) .ret) .skip)
def acsSignOk:AC:=(.seq (.ops [.asg 2 (kB false)]) (.seq (.seq (.ops [.mv 3 0]) (.block 0 (.seq (.seq (.ops [.bin 5 .eql 3 (.c (.d (.s (bs [40])))), .asg 4 5]) (.cond 4 .skip (.seq (.ops [.bin 6 .eql 3 (.c (.d (.s (bs [41])))), .asg 4 6]) (.cond 4 .skip (.seq (.ops [.bin 7 .eql 3 (.c (.d (.s (bs [44])))), .asg 4 7]) (.cond 4 .skip (.seq (.ops [.bin 8 .eql 3 (.c (.d (.s (bs [46])))), .asg 4 8]) (.cond 4 .skip (.seq (.ops [.bin 9 .eql 3 (.c (.d (.s (bs [42])))), .asg 4 9]) (.cond 4 .skip (.seq (.ops [.bin 10 .eql 3 (.c (.d (.s (bs [43])))), .asg 4 10]) (.cond 4 .skip (.seq (.ops [.bin 11 .eql 3 (.c (.d (.s (bs [45])))), .asg 4 11]) (.cond 4 .skip (.seq (.ops [.bin 12 .eql 3 (.c (.d (.s (bs [47])))), .asg 4 12]) (.cond 4 .skip (.seq (.ops [.bin 13 .eql 3 (.c (.d (.s (bs [37])))), .asg 4 13]) (.cond 4 .skip (.seq (.ops [.bin 14 .eql 3 (.c (.d (.s (bs [61])))), .asg 4 14]) (.cond 4 .skip (.seq (.ops [.bin 15 .eql 3 (.c (.d (.s (bs [60, 62])))), .asg 4 15]) (.cond 4 .skip (.seq (.ops [.bin 16 .eql 3 (.c (.d (.s (bs [60])))), .asg 4 16]) (.cond 4 .skip (.seq (.ops [.bin 17 .eql 3 (.c (.d (.s (bs [60, 61])))), .asg 4 17]) (.cond 4 .skip (.seq (.ops [.bin 18 .eql 3 (.c (.d (.s (bs [62])))), .asg 4 18]) (.cond 4 .skip (.seq (.ops [.bin 19 .eql 3 (.c (.d (.s (bs [62, 61])))), .asg 4 19]) (.cond 4 .skip (.ops [.bin 20 .eql 3 (.c (.d (.s (bs [124, 124])))), .asg 4 20]))))))))))))))))))))))))))))))) acsSignOk_J0))) (.seq (.ops [.asg 2 (kB false)]) .ret)))
theorem trsSignOk:trFn Tryz.prog 95 = some (acsSignOk, [.mv 0 2], 21):=by kernel_rfl
def qsSignOk (r:Bool):Exit → St → Prop:=retQ [.mv 0 2] fun x _ => x = (fun y => (vB y)) r
def qsSignOk_0 (r:Bool):Exit → St → Prop:=(thenK (wkK (avc Tryz.prog (.seq (.ops [.asg 2 (.c (.d (.b false)))]) .ret) (qsSignOk r))) (qsSignOk r))
def qsSignOk_1 (r:Bool):Exit → St → Prop:=(blockK 0 (qsSignOk_0 r))
def stsSignOk_J0 (x4:Bool):St:=⟨[(4,(vB x4))], []⟩
def acsNumber_L0:AC:=(.loop (.seq (.seq (.ops [.mv 15 5, .mv 16 0, .lns 17 16, .bin 18 .lss 15 17]) (.cond 18 .skip (.exit 0))) (.seq (.block 1 (.seq (.seq (.ops [.mv 21 0, .mv 22 5, .ix 23 21 22, .bin 24 .lss 23 (.c (.d (.i .u8 48))), .mv 25 24, .g 25 false (.mv 26 0), .g 25 false (.mv 27 5), .g 25 false (.ix 28 26 27), .g 25 false (.bin 29 .gtr 28 (.c (.d (.i .u8 57)))), .pick 30 25 (kB true) 29]) (.cond 30 (.seq (.ops [.asg 2 (kI 0), .asg 3 (kB false)]) .ret) .skip)) (.seq (.ops [.mv 31 0, .mv 32 5, .ix 33 31 32, .cvi 34 .i64 33, .bin 35 .sub 34 (kI 48), .asg 6 35]) (.seq (.seq (.ops [.mv 36 4, .mv 37 6, .bin 38 .sub (kI 9223372036854775807) 37, .bin 39 .quo 38 (kI 10), .bin 40 .gtr 36 39]) (.cond 40 (.seq (.ops [.asg 2 (kI 0), .asg 3 (kB false)]) .ret) .skip)) (.ops [.mv 41 4, .bin 42 .mul (kI 10) 41, .mv 43 6, .bin 44 .add 42 43, .asg 4 44]))))) (.ops [.mv 19 5, .bin 20 .add 19 (kI 1), .asg 5 20]))))
def acsNumber:AC:=(.seq (.ops [.asg 2 (kI 0), .asg 3 (kB false)]) (.seq (.seq (.ops [.mv 7 0, .lns 8 7, .bin 9 .lss 8 (kI 1), .mv 10 9, .g 10 false (.mv 11 0), .g 10 false (.lns 12 11), .g 10 false (.bin 13 .gtr 12 (kI 19)), .pick 14 10 (kB true) 13]) (.cond 14 (.seq (.ops [.asg 2 (kI 0), .asg 3 (kB false)]) .ret) .skip)) (.seq (.ops [.asg 4 (kI 0)]) (.seq (.seq (.ops [.asg 5 (kI 0)]) (.block 0 acsNumber_L0)) (.seq (.seq (.ops [.mv 45 4, .call (some 46) 129 [45], .mv 47 0, .bin 48 .neq 46 47]) (.cond 48 (.seq (.ops [.asg 2 (kI 0), .asg 3 (kB false)]) .ret) .skip)) (.seq (.ops [.mv 49 4, .asg 2 49, .asg 3 (kB true)]) .ret))))))
theorem trsNumber:trFn Tryz.prog 94 = some (acsNumber, [.mv 0 2, .mv 0 3], 50):=by kernel_rfl
def qsNumber (r:Int × Bool):Exit → St → Prop:=retQ [.mv 0 2, .mv 0 3] fun x _ => x = (fun y => (.tup [(vI y.1),(vB y.2)])) r
def qsNumber_0 (r:Int × Bool):Exit → St → Prop:=(thenK (wkK (avc Tryz.prog (.seq (.seq (.ops [.mv 45 4, .call (some 46) 129 [45], .mv 47 0, .bin 48 .neq 46 47]) (.cond 48 (.seq (.ops [.asg 2 (.c (.d (.i .i64 0))), .asg 3 (.c (.d (.b false)))]) .ret) .skip)) (.seq (.ops [.mv 49 4, .asg 2 49, .asg 3 (.c (.d (.b true)))]) .ret)) (qsNumber r))) (qsNumber r))
def qsNumber_1 (r:Int × Bool):Exit → St → Prop:=(blockK 0 (qsNumber_0 r))
def stsNumber_L0 (p0:(List UInt8)) (x4:Int) (x5:Int):St:=⟨[(0,(vS p0)),(4,(vI x4)),(5,(vI x5))], []⟩
def acsDigits_J1:AC:=(.seq (.ops [.mv 18 5, .bin 19 .add (kI 48) 18, .cvi 20 .u8 19, .bsl 21 5 1 [20], .cbs 22 21, .mv 23 4, .bin 24 .add 22 23, .asg 4 24]) (.ops [.mv 25 0, .bin 26 .quo 25 (kI 10), .asg 0 26]))
def acsDigits_L0:AC:=(.loop (.seq (.seq (.ops [.mv 10 0, .bin 11 .neq 10 (kI 0)]) (.cond 11 .skip (.exit 0))) (.block 1 (.seq (.ops [.mv 12 0, .bin 13 .rem 12 (kI 10), .asg 5 13]) (.seq (.seq (.ops [.mv 14 5, .bin 15 .lss 14 (kI 0)]) (.cond 15 (.ops [.mv 16 5, .bin 17 .sub (kI 0) 16, .asg 5 17]) .skip)) acsDigits_J1)))))
def acsDigits:AC:=(.seq (.ops [.asg 2 (.c (.d (.s (bs []))))]) (.seq (.seq (.ops [.mv 6 0, .bin 7 .eql 6 (kI 0)]) (.cond 7 (.seq (.ops [.asg 2 (.c (.d (.s (bs [48]))))]) .ret) .skip)) (.seq (.ops [.mv 8 0, .bin 9 .lss 8 (kI 0), .asg 3 9]) (.seq (.ops [.asg 4 (.c (.d (.s (bs []))))]) (.seq (.block 0 acsDigits_L0) (.seq (.seq (.ops [.mv 27 3]) (.cond 27 (.seq (.ops [.mv 28 4, .bin 29 .add (.c (.d (.s (bs [45])))) 28, .asg 2 29]) .ret) .skip)) (.seq (.ops [.mv 30 4, .asg 2 30]) .ret)))))))
theorem trsDigits:trFn Tryz.prog 129 = some (acsDigits, [.mv 0 2], 31):=by kernel_rfl
def qsDigits (r:(List UInt8)):Exit → St → Prop:=retQ [.mv 0 2] fun x _ => x = (fun y => (vS y)) r
def qsDigits_0 (r:(List UInt8)):Exit → St → Prop:=(thenK (wkK (avc Tryz.prog (.seq (.seq (.ops [.mv 27 3]) (.cond 27 (.seq (.ops [.mv 28 4, .bin 29 .add (.c (.d (.s (bs [45])))) 28, .asg 2 29]) .ret) .skip)) (.seq (.ops [.mv 30 4, .asg 2 30]) .ret)) (qsDigits r))) (qsDigits r))
def qsDigits_1 (r:(List UInt8)):Exit → St → Prop:=(blockK 0 (qsDigits_0 r))
def qsDigits_2 (r:(List UInt8)):Exit → St → Prop:=(thenK (avc Tryz.prog acsDigits_L0 (qsDigits_1 r)) (qsDigits_1 r))
def qsDigits_3 (r:(List UInt8)):Exit → St → Prop:=(blockK 1 (qsDigits_2 r))
def stsDigits_L0 (p0:Int) (x0:Int) (x4:(List UInt8)):St:=⟨[(0,(vI x0)),(3,(vB (decide (p0 < 0)))),(4,(vS x4))], []⟩
def stsDigits_J1 (x0:Int) (p0:Int) (x4:(List UInt8)) (x5:Int):St:=⟨[(0,(vI x0)),(3,(vB (decide (p0 < 0)))),(4,(vS x4)),(5,(vI x5))], []⟩
def acsL2Figure:AC:=(.seq (.ops [.asg 2 (kB false)]) (.seq (.ops [.mv 3 0, .bin 4 .geq 3 (.c (.d (.i .u8 48))), .mv 5 4, .g 5 true (.mv 6 0), .g 5 true (.bin 7 .leq 6 (.c (.d (.i .u8 57)))), .pick 8 5 7 (kB false), .asg 2 8]) .ret))
theorem trsL2Figure:trFn Tryz.prog 118 = some (acsL2Figure, [.mv 0 2], 9):=by kernel_rfl
def qsL2Figure (r:Bool):Exit → St → Prop:=retQ [.mv 0 2] fun x _ => x = (fun y => (vB y)) r
def acsL3Run_L0:AC:=(.loop (.seq (.seq (.ops [.mv 5 1, .mv 6 0, .lns 7 6, .bin 8 .lss 5 7, .mv 9 8, .g 9 true (.mv 10 0), .g 9 true (.mv 11 1), .g 9 true (.ix 12 10 11), .g 9 true (.call (some 13) 116 [12]), .g 9 true (.mv 14 13), .g 14 false (.mv 15 0), .g 14 false (.mv 16 1), .g 14 false (.ix 17 15 16), .g 14 false (.call (some 18) 118 [17]), .g 9 true (.pick 19 14 (kB true) 18), .pick 20 9 19 (kB false)]) (.cond 20 .skip (.exit 0))) (.block 1 (.ops [.mv 21 1, .bin 22 .add 21 (kI 1), .asg 1 22]))))
def acsL3Run:AC:=(.seq (.ops [.asg 4 (kI 0)]) (.seq (.block 0 acsL3Run_L0) (.seq (.ops [.mv 23 1, .asg 4 23]) .ret)))
theorem trsL3Run:trFn Tryz.prog 117 = some (acsL3Run, [.mv 0 4], 24):=by kernel_rfl
def qsL3Run (r:Int):Exit → St → Prop:=retQ [.mv 0 4] fun x _ => x = (fun y => (vI y)) r
def qsL3Run_0 (r:Int):Exit → St → Prop:=(thenK (wkK (avc Tryz.prog (.seq (.ops [.mv 23 1, .asg 4 23]) .ret) (qsL3Run r))) (qsL3Run r))
def qsL3Run_1 (r:Int):Exit → St → Prop:=(blockK 0 (qsL3Run_0 r))
def stsL3Run_L0 (p0:(List UInt8)) (x1:Int):St:=⟨[(0,(vS p0)),(1,(vI x1))], []⟩
def acsL2Letter:AC:=(.seq (.ops [.asg 2 (kB false)]) (.seq (.ops [.mv 3 0, .bin 4 .geq 3 (.c (.d (.i .u8 97))), .mv 5 4, .g 5 true (.mv 6 0), .g 5 true (.bin 7 .leq 6 (.c (.d (.i .u8 122)))), .pick 8 5 7 (kB false), .mv 9 8, .g 9 false (.mv 10 0), .g 9 false (.bin 11 .geq 10 (.c (.d (.i .u8 65)))), .g 9 false (.mv 12 11), .g 12 true (.mv 13 0), .g 12 true (.bin 14 .leq 13 (.c (.d (.i .u8 90)))), .g 9 false (.pick 15 12 14 (kB false)), .pick 16 9 (kB true) 15, .mv 17 16, .g 17 false (.mv 18 0), .g 17 false (.bin 19 .eql 18 (.c (.d (.i .u8 95)))), .pick 20 17 (kB true) 19, .asg 2 20]) .ret))
theorem trsL2Letter:trFn Tryz.prog 116 = some (acsL2Letter, [.mv 0 2], 21):=by kernel_rfl
def qsL2Letter (r:Bool):Exit → St → Prop:=retQ [.mv 0 2] fun x _ => x = (fun y => (vB y)) r
def acsL3Pass_L1:AC:=(.loop (.seq (.seq (.ops [.mv 48 1, .mv 49 0, .lns 50 49, .bin 51 .lss 48 50, .mv 52 51, .g 52 true (.mv 53 0), .g 52 true (.mv 54 1), .g 52 true (.ix 55 53 54), .g 52 true (.bin 56 .neq 55 (.c (.d (.i .u8 10)))), .pick 57 52 56 (kB false)]) (.cond 57 .skip (.exit 3))) (.block 4 (.ops [.mv 58 1, .bin 59 .add 58 (kI 1), .asg 1 59]))))
def acsL3Pass_L2:AC:=(.loop (.seq (.seq (.ops [.mv 65 6, .mv 66 0, .lns 67 66, .bin 68 .lss 65 67, .mv 69 68, .g 69 true (.mv 70 0), .g 69 true (.mv 71 6), .g 69 true (.mv 72 0), .g 69 true (.lns 73 72), .g 69 true (.mv 74 6), .g 69 true (.bin 75 .add 74 (kI 2)), .g 69 true (.call (some 76) 115 [73, 75]), .g 69 true (.sls 77 70 (some 71) (some 76)), .g 69 true (.bin 78 .neq 77 (.c (.d (.s (bs [42, 47]))))), .pick 79 69 78 (kB false)]) (.cond 79 .skip (.exit 5))) (.block 6 (.ops [.mv 80 6, .bin 81 .add 80 (kI 1), .asg 6 81]))))
def acsL3Pass_L0:AC:=(.loop (.seq (.seq (.ops [.mv 7 1, .mv 8 0, .lns 9 8, .bin 10 .lss 7 9]) (.cond 10 .skip (.exit 0))) (.block 1 (.seq (.ops [.mv 11 0, .mv 12 1, .mv 13 0, .lns 14 13, .mv 15 1, .bin 16 .add 15 (kI 2), .call (some 17) 115 [14, 16], .sls 18 11 (some 12) (some 17), .asg 5 18]) (.block 2 (.seq (.ops [.mv 21 0, .mv 22 1, .ix 23 21 22, .bin 24 .eql 23 (.c (.d (.i .u8 32))), .mv 25 24, .g 25 false (.mv 26 0), .g 25 false (.mv 27 1), .g 25 false (.ix 28 26 27), .g 25 false (.bin 29 .eql 28 (.c (.d (.i .u8 9)))), .pick 30 25 (kB true) 29, .mv 31 30, .g 31 false (.mv 32 0), .g 31 false (.mv 33 1), .g 31 false (.ix 34 32 33), .g 31 false (.bin 35 .eql 34 (.c (.d (.i .u8 10)))), .pick 36 31 (kB true) 35, .mv 37 36, .g 37 false (.mv 38 0), .g 37 false (.mv 39 1), .g 37 false (.ix 40 38 39), .g 37 false (.bin 41 .eql 40 (.c (.d (.i .u8 13)))), .pick 42 37 (kB true) 41, .asg 20 42]) (.cond 20 (.ops [.mv 43 1, .bin 44 .add 43 (kI 1), .asg 1 44]) (.seq (.ops [.mv 46 5, .bin 47 .eql 46 (.c (.d (.s (bs [45, 45])))), .asg 45 47]) (.cond 45 (.block 3 acsL3Pass_L1) (.seq (.ops [.mv 61 5, .bin 62 .eql 61 (.c (.d (.s (bs [47, 42])))), .asg 60 62]) (.cond 60 (.seq (.ops [.mv 63 1, .bin 64 .add 63 (kI 2), .asg 6 64]) (.seq (.block 5 acsL3Pass_L2) (.seq (.seq (.ops [.mv 82 6, .mv 83 0, .lns 84 83, .bin 85 .geq 82 84]) (.cond 85 (.seq (.ops [.mv 86 1, .neg 87 86, .bin 88 .sub 87 (kI 1), .asg 4 88]) .ret) .skip)) (.ops [.mv 89 6, .bin 90 .add 89 (kI 2), .asg 1 90])))) (.seq (.ops [.mv 19 1, .asg 4 19]) .ret))))))))))))
def acsL3Pass:AC:=(.seq (.ops [.asg 4 (kI 0)]) (.seq (.block 0 acsL3Pass_L0) (.seq (.ops [.mv 91 1, .asg 4 91]) .ret)))
theorem trsL3Pass:trFn Tryz.prog 71 = some (acsL3Pass, [.mv 0 4], 92):=by kernel_rfl
def qsL3Pass (r:Int):Exit → St → Prop:=retQ [.mv 0 4] fun x _ => x = (fun y => (vI y)) r
def qsL3Pass_0 (r:Int):Exit → St → Prop:=(thenK (wkK (avc Tryz.prog (.seq (.ops [.mv 91 1, .asg 4 91]) .ret) (qsL3Pass r))) (qsL3Pass r))
def qsL3Pass_1 (r:Int):Exit → St → Prop:=(blockK 0 (qsL3Pass_0 r))
def qsL3Pass_2 (r:Int):Exit → St → Prop:=(thenK (avc Tryz.prog acsL3Pass_L0 (qsL3Pass_1 r)) (qsL3Pass_1 r))
def qsL3Pass_3 (r:Int):Exit → St → Prop:=(blockK 1 (qsL3Pass_2 r))
def qsL3Pass_4 (r:Int):Exit → St → Prop:=(blockK 2 (qsL3Pass_3 r))
def qsL3Pass_5 (r:Int):Exit → St → Prop:=(blockK 3 (qsL3Pass_4 r))
def qsL3Pass_6 (r:Int):Exit → St → Prop:=(thenK (wkK (avc Tryz.prog (.seq (.seq (.ops [.mv 82 6, .mv 83 0, .lns 84 83, .bin 85 .geq 82 84]) (.cond 85 (.seq (.ops [.mv 86 1, .neg 87 86, .bin 88 .sub 87 (.c (.d (.i .i64 1))), .asg 4 88]) .ret) .skip)) (.ops [.mv 89 6, .bin 90 .add 89 (.c (.d (.i .i64 2))), .asg 1 90])) (qsL3Pass_4 r))) (qsL3Pass_4 r))
def qsL3Pass_7 (r:Int):Exit → St → Prop:=(blockK 5 (qsL3Pass_6 r))
def stsL3Pass_L0 (p0:(List UInt8)) (x1:Int):St:=⟨[(0,(vS p0)),(1,(vI x1))], []⟩
def stsL3Pass_L1 (p0:(List UInt8)) (x1_10:Int):St:=⟨[(0,(vS p0)),(1,(vI x1_10))], []⟩
def stsL3Pass_L2 (p0:(List UInt8)) (x1:Int) (x6:Int):St:=⟨[(0,(vS p0)),(1,(vI x1)),(6,(vI x6))], []⟩
def acsL1Min:AC:=(.seq (.ops [.asg 4 (kI 0)]) (.seq (.seq (.ops [.mv 5 0, .mv 6 1, .bin 7 .lss 5 6]) (.cond 7 (.seq (.ops [.mv 8 0, .asg 4 8]) .ret) .skip)) (.seq (.ops [.mv 9 1, .asg 4 9]) .ret)))
theorem trsL1Min:trFn Tryz.prog 115 = some (acsL1Min, [.mv 0 4], 10):=by kernel_rfl
def qsL1Min (r:Int):Exit → St → Prop:=retQ [.mv 0 4] fun x _ => x = (fun y => (vI y)) r
def acsSpaced:AC:=(.seq (.ops [.asg 2 (.c (.d (.s (bs []))))]) (.seq (.ops [.mv 3 0, .call (some 4) 29 [3,(kB false)], .asg 2 4]) .ret))
theorem trsSpaced:trFn Tryz.prog 14 = some (acsSpaced, [.mv 0 2], 5):=by kernel_rfl
def qsSpaced (r:(List UInt8)):Exit → St → Prop:=retQ [.mv 0 2] fun x _ => x = (fun y => (vS y)) r
def acsL4Join_J1:AC:=(.ops [.mv 40 5, .mv 41 0, .mv 42 6, .ia 43 3 41 42, .ld 44 3 true 43, .call (some 45) 50 [44], .app 46 5 1 1 40 45, .asg 5 46])
def acsL4Join_L0:AC:=(.loop (.seq (.seq (.ops [.mv 8 6, .mv 9 0, .len 10 9, .bin 11 .lss 8 10]) (.cond 11 .skip (.exit 0))) (.seq (.block 1 (.seq (.seq (.ops [.mv 14 0, .mv 15 6, .ia 16 3 14 15, .ld 17 3 true 16, .call (some 18) 48 [17], .not 19 18]) (.cond 19 (.seq (.ops [.asg 4 (.c (.d (.s (bs []))))]) .ret) .skip)) (.seq (.seq (.dops [[], [0], [1], [2], [3, 2, 2], [4], [4], [6, 4], [5, 7, 4], [8, 4], [4], [4], [10, 11, 4], [12, 4], [9, 13, 4, 4], [4, 14, 2], [2, 15]] [.mv 20 6, .bin 21 .gtr 20 (kI 0), .mv 22 21, .g 22 true (.mv 23 1), .g 22 true (.mv 24 23), .g 24 false (.mv 25 0), .g 24 false (.mv 26 6), .g 24 false (.bin 27 .sub 26 (kI 1)), .g 24 false (.ia 28 3 25 27), .g 24 false (.ld 29 3 true 28), .g 24 false (.mv 30 0), .g 24 false (.mv 31 6), .g 24 false (.ia 32 3 30 31), .g 24 false (.ld 33 3 true 32), .g 24 false (.call (some 34) 49 [29, 33]), .g 22 true (.pick 35 24 (kB true) 34), .pick 36 22 35 (kB false)]) (.cond 36 (.ops [.mv 37 5, .bsl 38 5 1 [(.c (.d (.i .u8 32)))], .app 39 5 1 1 37 38, .asg 5 39]) .skip)) acsL4Join_J1))) (.ops [.mv 12 6, .bin 13 .add 12 (kI 1), .asg 6 13]))))
def acsL4Join:AC:=(.seq (.ops [.asg 4 (.c (.d (.s (bs []))))]) (.seq (.ops [.bsl 7 5 1 [], .asg 5 7]) (.seq (.seq (.ops [.asg 6 (kI 0)]) (.block 0 acsL4Join_L0)) (.seq (.seq (.ops [.mv 47 5, .len 48 47, .bin 49 .gtr 48 (kI 2000)]) (.cond 49 (.seq (.ops [.asg 4 (.c (.d (.s (bs []))))]) .ret) .skip)) (.seq (.ops [.mv 50 5, .cbs 51 50, .asg 4 51]) .ret)))))
theorem trsL4Join:trFn Tryz.prog 29 = some (acsL4Join, [.mv 0 4], 52):=by kernel_rfl
def qsL4Join (r:(List UInt8)):Exit → St → Prop:=retQ [.mv 0 4] fun x _ => x = (fun y => (vS y)) r
def qsL4Join_0 (r:(List UInt8)):Exit → St → Prop:=(thenK (wkK (avc Tryz.prog (.seq (.seq (.ops [.mv 47 5, .len 48 47, .bin 49 .gtr 48 (.c (.d (.i .i64 2000)))]) (.cond 49 (.seq (.ops [.asg 4 (.c (.d (.s (bs []))))]) .ret) .skip)) (.seq (.ops [.mv 50 5, .cbs 51 50, .asg 4 51]) .ret)) (qsL4Join r))) (qsL4Join r))
def qsL4Join_1 (r:(List UInt8)):Exit → St → Prop:=(blockK 0 (qsL4Join_0 r))
def qsL4Join_2 (r:(List UInt8)):Exit → St → Prop:=(thenK (avc Tryz.prog acsL4Join_L0 (qsL4Join_1 r)) (qsL4Join_1 r))
def qsL4Join_3 (r:(List UInt8)):Exit → St → Prop:=(thenK (wkK (avc Tryz.prog (.ops [.mv 12 6, .bin 13 .add 12 (.c (.d (.i .i64 1))), .asg 6 13]) (qsL4Join_2 r))) (qsL4Join_2 r))
def qsL4Join_4 (r:(List UInt8)):Exit → St → Prop:=(blockK 1 (qsL4Join_3 r))
def stsL4Join_L0 (p0:(List GToken)) (p1:Bool) (x5:(List Int)) (x6:Int):St:=⟨[(0,(.d (.sl 3 (p0.map cGToken)))),(1,(vB p1)),(5,(.osl 5 5 1 (x5.map cU8))),(6,(vI x6))], []⟩
def stsL4Join_J1 (p0:(List GToken)) (p1:Bool) (x6:Int) (x5_9:(List Int)):St:=⟨[(0,(.d (.sl 3 (p0.map cGToken)))),(1,(vB p1)),(5,(.osl 5 5 1 (x5_9.map cU8))),(6,(vI x6))], []⟩
def acsTokenText:AC:=(.seq (.ops [.box 1 53 0, .asg 2 (.c (.d (.s (bs []))))]) (.seq (.seq (.ops [.ld 3 3 true 1, .call (some 4) 48 [3], .not 5 4]) (.cond 5 (.seq (.ops [.asg 2 (.c (.d (.s (bs []))))]) .ret) .skip)) (.seq (.seq (.ops [.fa 6 0 1, .ld 7 1 false 6]) (.block 0 (.seq (.ops [.bin 9 .eql 7 (kI 2), .asg 8 9]) (.cond 8 (.seq (.ops [.fa 10 1 1, .ld 11 1 false 10, .call (some 12) 98 [11], .asg 2 12]) .ret) (.seq (.ops [.bin 14 .eql 7 (kI 4), .asg 13 14]) (.cond 13 (.seq (.ops [.fa 15 1 1, .ld 16 1 false 15, .call (some 17) 99 [16], .asg 2 17]) .ret) .skip)))))) (.seq (.ops [.fa 18 1 1, .ld 19 1 false 18, .asg 2 19]) .ret))))
theorem trsTokenText:trFn Tryz.prog 50 = some (acsTokenText, [.mv 0 2], 20):=by kernel_rfl
def qsTokenText (r:(List UInt8)):Exit → St → Prop:=retQ [.mv 0 2] fun x _ => x = (fun y => (vS y)) r
def acsNameText:AC:=(.seq (.ops [.asg 2 (.c (.d (.s (bs []))))]) (.seq (.seq (.ops [.mv 3 0, .call (some 4) 74 [3], .not 5 4]) (.cond 5 (.seq (.ops [.asg 2 (.c (.d (.s (bs []))))]) .ret) .skip)) (.seq (.seq (.ops [.mv 6 0, .call (some 7) 132 [6]]) (.cond 7 (.seq (.ops [.mv 8 0, .asg 2 8]) .ret) .skip)) (.seq (.ops [.mv 9 0, .call (some 10) 133 [9,(.c (.d (.i .u8 34)))], .asg 2 10]) .ret))))
theorem trsNameText:trFn Tryz.prog 98 = some (acsNameText, [.mv 0 2], 11):=by kernel_rfl
def qsNameText (r:(List UInt8)):Exit → St → Prop:=retQ [.mv 0 2] fun x _ => x = (fun y => (vS y)) r
def acsL2Quote_J1:AC:=(.ops [.mv 24 5, .mv 25 0, .mv 26 6, .ix 27 25 26, .bsl 28 5 1 [27], .app 29 5 1 1 24 28, .asg 5 29])
def acsL2Quote_L0:AC:=(.loop (.seq (.seq (.ops [.mv 9 6, .mv 10 0, .lns 11 10, .bin 12 .lss 9 11]) (.cond 12 .skip (.exit 0))) (.seq (.block 1 (.seq (.seq (.ops [.mv 15 0, .mv 16 6, .ix 17 15 16, .mv 18 1, .bin 19 .eql 17 18]) (.cond 19 (.ops [.mv 20 5, .mv 21 1, .bsl 22 5 1 [21], .app 23 5 1 1 20 22, .asg 5 23]) .skip)) acsL2Quote_J1)) (.ops [.mv 13 6, .bin 14 .add 13 (kI 1), .asg 6 14]))))
def acsL2Quote:AC:=(.seq (.ops [.asg 4 (.c (.d (.s (bs []))))]) (.seq (.ops [.mv 7 1, .bsl 8 5 1 [7], .asg 5 8]) (.seq (.seq (.ops [.asg 6 (kI 0)]) (.block 0 acsL2Quote_L0)) (.seq (.ops [.mv 30 5, .mv 31 1, .bsl 32 5 1 [31], .app 33 5 1 1 30 32, .cbs 34 33, .asg 4 34]) .ret))))
theorem trsL2Quote:trFn Tryz.prog 133 = some (acsL2Quote, [.mv 0 4], 35):=by kernel_rfl
def qsL2Quote (r:(List UInt8)):Exit → St → Prop:=retQ [.mv 0 4] fun x _ => x = (fun y => (vS y)) r
def qsL2Quote_0 (r:(List UInt8)):Exit → St → Prop:=(thenK (wkK (avc Tryz.prog (.seq (.ops [.mv 30 5, .mv 31 1, .bsl 32 5 1 [31], .app 33 5 1 1 30 32, .cbs 34 33, .asg 4 34]) .ret) (qsL2Quote r))) (qsL2Quote r))
def qsL2Quote_1 (r:(List UInt8)):Exit → St → Prop:=(blockK 0 (qsL2Quote_0 r))
def qsL2Quote_2 (r:(List UInt8)):Exit → St → Prop:=(thenK (avc Tryz.prog acsL2Quote_L0 (qsL2Quote_1 r)) (qsL2Quote_1 r))
def qsL2Quote_3 (r:(List UInt8)):Exit → St → Prop:=(thenK (wkK (avc Tryz.prog (.ops [.mv 13 6, .bin 14 .add 13 (.c (.d (.i .i64 1))), .asg 6 14]) (qsL2Quote_2 r))) (qsL2Quote_2 r))
def qsL2Quote_4 (r:(List UInt8)):Exit → St → Prop:=(blockK 1 (qsL2Quote_3 r))
def stsL2Quote_L0 (p0:(List UInt8)) (p1:Int) (x5:(List Int)) (x6:Int):St:=⟨[(0,(vS p0)),(1,(.d (.i .u8 p1))),(5,(.osl 5 5 1 (x5.map cU8))),(6,(vI x6))], []⟩
def stsL2Quote_J1 (p0:(List UInt8)) (p1:Int) (x6:Int) (x5_3:(List Int)):St:=⟨[(0,(vS p0)),(1,(.d (.i .u8 p1))),(5,(.osl 5 5 1 (x5_3.map cU8))),(6,(vI x6))], []⟩
def acsPlainName_L0:AC:=(.loop (.seq (.seq (.ops [.mv 17 3, .mv 18 0, .lns 19 18, .bin 20 .lss 17 19]) (.cond 20 .skip (.exit 0))) (.seq (.block 1 (.seq (.ops [.mv 23 0, .mv 24 3, .ix 25 23 24, .call (some 26) 116 [25], .not 27 26, .mv 28 27, .g 28 true (.mv 29 0), .g 28 true (.mv 30 3), .g 28 true (.ix 31 29 30), .g 28 true (.call (some 32) 118 [31]), .g 28 true (.not 33 32), .pick 34 28 33 (kB false)]) (.cond 34 (.seq (.ops [.asg 2 (kB false)]) .ret) .skip))) (.ops [.mv 21 3, .bin 22 .add 21 (kI 1), .asg 3 22]))))
def acsPlainName:AC:=(.seq (.ops [.asg 2 (kB false)]) (.seq (.seq (.ops [.mv 4 0, .call (some 5) 74 [4], .not 6 5, .mv 7 6, .g 7 false (.mv 8 0), .g 7 false (.ix 9 8 (kI 0)), .g 7 false (.call (some 10) 118 [9]), .pick 11 7 (kB true) 10, .mv 12 11, .g 12 false (.mv 13 0), .g 12 false (.call (some 14) 93 [13]), .g 12 false (.bin 15 .gtr 14 (kI 0)), .pick 16 12 (kB true) 15]) (.cond 16 (.seq (.ops [.asg 2 (kB false)]) .ret) .skip)) (.seq (.seq (.ops [.asg 3 (kI 0)]) (.block 0 acsPlainName_L0)) (.seq (.ops [.asg 2 (kB true)]) .ret))))
theorem trsPlainName:trFn Tryz.prog 132 = some (acsPlainName, [.mv 0 2], 35):=by kernel_rfl
def qsPlainName (r:Bool):Exit → St → Prop:=retQ [.mv 0 2] fun x _ => x = (fun y => (vB y)) r
def qsPlainName_0 (r:Bool):Exit → St → Prop:=(thenK (wkK (avc Tryz.prog (.seq (.ops [.asg 2 (.c (.d (.b true)))]) .ret) (qsPlainName r))) (qsPlainName r))
def qsPlainName_1 (r:Bool):Exit → St → Prop:=(blockK 0 (qsPlainName_0 r))
def stsPlainName_L0 (p0:(List UInt8)) (x3:Int):St:=⟨[(0,(vS p0)),(3,(vI x3))], []⟩
def acsQuoteText:AC:=(.seq (.ops [.asg 2 (.c (.d (.s (bs []))))]) (.seq (.ops [.mv 3 0, .call (some 4) 133 [3,(.c (.d (.i .u8 39)))], .asg 2 4]) .ret))
theorem trsQuoteText:trFn Tryz.prog 99 = some (acsQuoteText, [.mv 0 2], 5):=by kernel_rfl
def qsQuoteText (r:(List UInt8)):Exit → St → Prop:=retQ [.mv 0 2] fun x _ => x = (fun y => (vS y)) r
def acsNeedsGap:AC:=(.seq (.ops [.box 2 53 0, .box 3 53 1, .asg 4 (kB false)]) (.seq (.seq (.ops [.ld 5 3 true 2, .call (some 6) 48 [5], .not 7 6, .mv 8 7, .g 8 false (.ld 9 3 true 3), .g 8 false (.call (some 10) 48 [9]), .g 8 false (.not 11 10), .pick 12 8 (kB true) 11]) (.cond 12 (.seq (.ops [.asg 4 (kB false)]) .ret) .skip)) (.seq (.seq (.ops [.ld 13 3 true 2, .call (some 14) 96 [13], .mv 15 14, .g 15 true (.ld 16 3 true 3), .g 15 true (.call (some 17) 96 [16]), .pick 18 15 17 (kB false), .mv 19 18, .g 19 false (.fa 20 0 2), .g 19 false (.ld 21 1 false 20), .g 19 false (.bin 22 .eql 21 (kI 4)), .g 19 false (.mv 23 22), .g 23 true (.fa 24 0 3), .g 23 true (.ld 25 1 false 24), .g 23 true (.bin 26 .eql 25 (kI 4)), .g 19 false (.pick 27 23 26 (kB false)), .pick 28 19 (kB true) 27, .mv 29 28, .g 29 false (.ld 30 3 true 2), .g 29 false (.call (some 31) 97 [30]), .g 29 false (.mv 32 31), .g 32 true (.ld 33 3 true 3), .g 32 true (.call (some 34) 97 [33]), .g 29 false (.pick 35 32 34 (kB false)), .pick 36 29 (kB true) 35]) (.cond 36 (.seq (.ops [.asg 4 (kB true)]) .ret) .skip)) (.seq (.seq (.ops [.fa 37 0 2, .ld 38 1 false 37, .bin 39 .neq 38 (kI 5), .mv 40 39, .g 40 false (.fa 41 0 3), .g 40 false (.ld 42 1 false 41), .g 40 false (.bin 43 .neq 42 (kI 5)), .pick 44 40 (kB true) 43]) (.cond 44 (.seq (.ops [.asg 4 (kB false)]) .ret) .skip)) (.seq (.seq (.ops [.fa 45 1 2, .ld 46 1 false 45]) (.block 0 (.seq (.ops [.bin 48 .eql 46 (.c (.d (.s (bs [45])))), .asg 47 48]) (.cond 47 (.seq (.ops [.fa 49 1 3, .ld 50 1 false 49, .bin 51 .eql 50 (.c (.d (.s (bs [45])))), .asg 4 51]) .ret) (.seq (.ops [.bin 53 .eql 46 (.c (.d (.s (bs [47])))), .asg 52 53]) (.cond 52 (.seq (.ops [.fa 54 1 3, .ld 55 1 false 54, .bin 56 .eql 55 (.c (.d (.s (bs [42])))), .asg 4 56]) .ret) (.seq (.ops [.bin 58 .eql 46 (.c (.d (.s (bs [60])))), .asg 57 58]) (.cond 57 (.seq (.ops [.fa 59 1 3, .ld 60 1 false 59, .ix 61 60 (kI 0), .bin 62 .eql 61 (.c (.d (.i .u8 61))), .mv 63 62, .g 63 false (.fa 64 1 3), .g 63 false (.ld 65 1 false 64), .g 63 false (.ix 66 65 (kI 0)), .g 63 false (.bin 67 .eql 66 (.c (.d (.i .u8 62)))), .pick 68 63 (kB true) 67, .asg 4 68]) .ret) (.seq (.ops [.bin 70 .eql 46 (.c (.d (.s (bs [62])))), .asg 69 70]) (.cond 69 (.seq (.ops [.fa 71 1 3, .ld 72 1 false 71, .ix 73 72 (kI 0), .bin 74 .eql 73 (.c (.d (.i .u8 61))), .asg 4 74]) .ret) .skip)))))))))) (.seq (.ops [.asg 4 (kB false)]) .ret))))))
theorem trsNeedsGap:trFn Tryz.prog 49 = some (acsNeedsGap, [.mv 0 4], 75):=by kernel_rfl
def qsNeedsGap (r:Bool):Exit → St → Prop:=retQ [.mv 0 4] fun x _ => x = (fun y => (vB y)) r
def acsL4Word:AC:=(.seq (.ops [.box 1 53 0, .asg 2 (kB false)]) (.seq (.ops [.fa 3 0 1, .ld 4 1 false 3, .bin 5 .eql 4 (kI 1), .mv 6 5, .g 6 false (.fa 7 0 1), .g 6 false (.ld 8 1 false 7), .g 6 false (.bin 9 .eql 8 (kI 3)), .pick 10 6 (kB true) 9, .mv 11 10, .g 11 false (.fa 12 0 1), .g 11 false (.ld 13 1 false 12), .g 11 false (.bin 14 .eql 13 (kI 2)), .g 11 false (.mv 15 14), .g 15 true (.fa 16 1 1), .g 15 true (.ld 17 1 false 16), .g 15 true (.call (some 18) 132 [17]), .g 11 false (.pick 19 15 18 (kB false)), .pick 20 11 (kB true) 19, .asg 2 20]) .ret))
theorem trsL4Word:trFn Tryz.prog 96 = some (acsL4Word, [.mv 0 2], 21):=by kernel_rfl
def qsL4Word (r:Bool):Exit → St → Prop:=retQ [.mv 0 2] fun x _ => x = (fun y => (vB y)) r
def acsL4Quoted:AC:=(.seq (.ops [.box 1 53 0, .asg 2 (kB false)]) (.seq (.ops [.fa 3 0 1, .ld 4 1 false 3, .bin 5 .eql 4 (kI 2), .mv 6 5, .g 6 true (.fa 7 1 1), .g 6 true (.ld 8 1 false 7), .g 6 true (.call (some 9) 132 [8]), .g 6 true (.not 10 9), .pick 11 6 10 (kB false), .asg 2 11]) .ret))
theorem trsL4Quoted:trFn Tryz.prog 97 = some (acsL4Quoted, [.mv 0 2], 12):=by kernel_rfl
def qsL4Quoted (r:Bool):Exit → St → Prop:=retQ [.mv 0 2] fun x _ => x = (fun y => (vB y)) r
def acwBig:AC:=(.seq (.ops [.asg 2 (kB false)]) (.seq (.ops [.mv 3 0, .len 4 3, .bin 5 .gtr 4 (kI 1048576), .asg 2 5]) .ret))
theorem trwBig:trFn Tryz.prog 16 = some (acwBig, [.mv 0 2], 6):=by kernel_rfl
def qwBig (r:Bool):Exit → St → Prop:=retQ [.mv 0 2] fun x _ => x = (fun y => (vB y)) r
def aciSqueeze:AC:=(.seq (.ops [.asg 2 (.c (.d (.s (bs [])))), .asg 3 (kI 0)]) (.seq (.ops [.mv 7 0, .call (some 8) 18 [7], .mv 6 8, .ext 9 6 0, .ext 10 6 1, .asg 4 9, .asg 5 10]) (.seq (.seq (.ops [.mv 11 5, .bin 12 .geq 11 (kI 0)]) (.cond 12 (.seq (.ops [.mv 13 5, .asg 2 (.c (.d (.s (bs [])))), .asg 3 13]) .ret) .skip)) (.seq (.ops [.mv 14 4, .call (some 15) 15 [14], .asg 2 15, .asg 3 (kI (-1))]) .ret))))
theorem triSqueeze:trFn Tryz.prog 21 = some (aciSqueeze, [.mv 0 2, .mv 0 3], 16):=by kernel_rfl
def qiSqueeze (r:(List UInt8) × Int):Exit → St → Prop:=retQ [.mv 0 2, .mv 0 3] fun x _ => x = (fun y => (.tup [(vS y.1),(vI y.2)])) r
def aciSpaced:AC:=(.seq (.ops [.asg 2 (.c (.d (.s (bs []))))]) (.seq (.ops [.mv 3 0, .call (some 4) 31 [3,(.c (.fn 34 []))], .asg 2 4]) .ret))
theorem triSpaced:trFn Tryz.prog 15 = some (aciSpaced, [.mv 0 2], 5):=by kernel_rfl
def qiSpaced (r:(List UInt8)):Exit → St → Prop:=retQ [.mv 0 2] fun x _ => x = (fun y => (vS y)) r
def aciJoined_iNeedsGap_J1:AC:=(.ops [.ld 32 3 true 7, .call (some 33) 53 [32], .call (some 34) 52 [5, 33]])
def aciJoined_iNeedsGap_L0:AC:=(.loop (.seq (.ops [.bin 12 .lss 11 10]) (.seq (.cond 12 .skip (.exit 0)) (.seq (.block 1 (.seq (.ops [.mv 13 11, .ia 14 3 9 11, .ld 15 3 true 14, .alc 7 [(.d (.i .i64 0)),(.d (.s (bs []))),(.d (.i .i64 0))], .asg 6 13, .st 3 7 15]) (.seq (.seq (.ops [.ld 16 3 true 7, .call (some 17) 51 [16], .not 18 17]) (.cond 18 (.seq (.ops [.asg 4 (.c (.d (.s (bs []))))]) .ret) .skip)) (.seq (.seq (.dops [[], [0], [1], [2], [2], [2], [5, 2], [4, 6, 2], [7, 2], [2], [3, 8, 9, 2, 2], [2, 10]] [.mv 19 6, .bin 20 .gtr 19 (kI 0), .mv 21 20, .g 21 true (.mv 22 1), .g 21 true (.mv 23 0), .g 21 true (.mv 24 6), .g 21 true (.bin 25 .sub 24 (kI 1)), .g 21 true (.ia 26 3 23 25), .g 21 true (.ld 27 3 true 26), .g 21 true (.ld 28 3 true 7), .g 21 true (.callv (some 29) 22 [27, 28]), .pick 30 21 29 (kB false)]) (.cond 30 (.ops [.call (some 31) 52 [5,(.c (.d (.s (bs [32]))))]]) .skip)) aciJoined_iNeedsGap_J1)))) (.ops [.bin 35 .add 11 (kI 1), .mv 11 35])))))
def aciJoined_iNeedsGap:AC:=(.seq (.ops [.asg 4 (.c (.d (.s (bs []))))]) (.seq (.ops [.bld 8 [.np,(.nil 1)] [], .alc 5 [(.bp 5 74),(.nil 1)], .st 2 5 8]) (.seq (.seq (.ops [.mv 9 0, .len 10 9, .mv 11 (kI 0)]) (.block 0 aciJoined_iNeedsGap_L0)) (.seq (.seq (.ops [.call (some 36) 54 [5], .bin 37 .gtr 36 (kI 2000)]) (.cond 37 (.seq (.ops [.asg 4 (.c (.d (.s (bs []))))]) .ret) .skip)) (.seq (.ops [.call (some 38) 55 [5], .asg 4 38]) .ret)))))
theorem triJoined_iNeedsGap:trFn Tryz.prog 31 = some (aciJoined_iNeedsGap, [.mv 0 4], 39):=by kernel_rfl
def qiJoined_iNeedsGap (r:(List UInt8)):Exit → St → Prop:=retQ [.mv 0 4] fun x _ => x = (fun y => (vS y)) r
def qiJoined_iNeedsGap_0 (r:(List UInt8)):Exit → St → Prop:=(thenK (wkK (avc Tryz.prog (.seq (.seq (.ops [.call (some 36) 54 [5], .bin 37 .gtr 36 (.c (.d (.i .i64 2000)))]) (.cond 37 (.seq (.ops [.asg 4 (.c (.d (.s (bs []))))]) .ret) .skip)) (.seq (.ops [.call (some 38) 55 [5], .asg 4 38]) .ret)) (qiJoined_iNeedsGap r))) (qiJoined_iNeedsGap r))
def qiJoined_iNeedsGap_1 (r:(List UInt8)):Exit → St → Prop:=(blockK 0 (qiJoined_iNeedsGap_0 r))
def qiJoined_iNeedsGap_2 (r:(List UInt8)):Exit → St → Prop:=(thenK (avc Tryz.prog aciJoined_iNeedsGap_L0 (qiJoined_iNeedsGap_1 r)) (qiJoined_iNeedsGap_1 r))
def qiJoined_iNeedsGap_3 (r:(List UInt8)):Exit → St → Prop:=(thenK (wkK (avc Tryz.prog (.ops [.bin 35 .add 11 (.c (.d (.i .i64 1))), .mv 11 35]) (qiJoined_iNeedsGap_2 r))) (qiJoined_iNeedsGap_2 r))
def qiJoined_iNeedsGap_4 (r:(List UInt8)):Exit → St → Prop:=(blockK 1 (qiJoined_iNeedsGap_3 r))
def stiJoined_iNeedsGap_L0 (p0:(List GToken)) (x11:Int) (b5_1:(List Int)):St:=⟨[(0,(.d (.sl 3 (p0.map cGToken)))),(1,(.fn 34 [])),(5,(.ptr 5 0)),(9,(.d (.sl 3 (p0.map cGToken)))),(10,(vI (p0.length:Int))),(11,(vI x11))], [(5, [(.bp 5 74),(.osl 5062501 5 1 (b5_1.map cU8))])]⟩
def stiJoined_iNeedsGap_J1 (p0:(List GToken)) (x11:Int) (y1:GToken) (b5_1_7:(List Int)):St:=⟨[(0,(.d (.sl 3 (p0.map cGToken)))),(1,(.fn 34 [])),(5,(.ptr 5 0)),(7,(.ptr 7 0)),(9,(.d (.sl 3 (p0.map cGToken)))),(10,(vI (p0.length:Int))),(11,(vI x11))], [(5, [(.bp 5 74),(.osl 5062501 5 1 (b5_1_7.map cU8))]),(7, bGToken y1)]⟩
def aciTokenOk:AC:=(.seq (.ops [.box 1 53 0, .asg 2 (kB false)]) (.seq (.seq (.ops [.fa 5 0 1, .ld 6 1 false 5]) (.block 0 (.seq (.ops [.bin 8 .eql 6 (kI 1), .asg 7 8]) (.cond 7 (.seq (.dops [[], [0], [1], [2], [3, 2], [4], [5, 4], [6, 4, 4], [4], [8, 4], [7, 9, 4], [4, 10], [11, 7, 0, 1, 2, 3, 4, 5, 6, 7, 8, 9, 10, 11]] [.fa 9 1 1, .ld 10 1 false 9, .call (some 11) 67 [10], .bin 12 .neq 11 (kI 0), .mv 13 12, .g 13 true (.fa 14 1 1), .g 13 true (.ld 15 1 false 14), .g 13 true (.call (some 16) 68 [15]), .g 13 true (.fa 17 1 1), .g 13 true (.ld 18 1 false 17), .g 13 true (.bin 19 .eql 16 18), .pick 20 13 19 (kB false), .asg 2 20]) .ret) (.seq (.ops [.bin 22 .eql 6 (kI 2), .asg 21 22]) (.cond 21 (.seq (.ops [.fa 23 1 1, .ld 24 1 false 23, .call (some 25) 100 [24], .asg 2 25]) .ret) (.seq (.ops [.bin 27 .eql 6 (kI 3), .asg 26 27]) (.cond 26 (.seq (.ops [.fa 29 1 1, .ld 30 1 false 29, .call (some 31) 101 [30], .mv 28 31, .ext 32 28 0, .ext 33 28 1, .asg 3 32, .asg 4 33]) (.seq (.ops [.mv 34 4, .asg 2 34]) .ret)) (.seq (.ops [.bin 36 .eql 6 (kI 4), .asg 35 36]) (.cond 35 (.seq (.ops [.fa 37 1 1, .ld 38 1 false 37, .lns 39 38, .bin 40 .leq 39 (kI 40), .asg 2 40]) .ret) (.seq (.ops [.bin 42 .eql 6 (kI 5), .asg 41 42]) (.cond 41 (.seq (.ops [.fa 43 1 1, .ld 44 1 false 43, .call (some 45) 102 [44], .asg 2 45]) .ret) .skip)))))))))))) (.seq (.ops [.asg 2 (kB false)]) .ret)))
theorem triTokenOk:trFn Tryz.prog 51 = some (aciTokenOk, [.mv 0 2], 46):=by kernel_rfl
def qiTokenOk (r:Bool):Exit → St → Prop:=retQ [.mv 0 2] fun x _ => x = (fun y => (vB y)) r
def aciSignOk:AC:=(.seq (.ops [.asg 2 (kB false)]) (.seq (.ops [.call (some 3) 70 [], .mv 4 0, .call (some 5) 136 [3, 4], .asg 2 5]) .ret))
theorem triSignOk:trFn Tryz.prog 102 = some (aciSignOk, [.mv 0 2], 6):=by kernel_rfl
def qiSignOk (r:Bool):Exit → St → Prop:=retQ [.mv 0 2] fun x _ => x = (fun y => (vB y)) r
def acgSlices_Contains_Sstring_string:AC:=(.seq (.ops [.asg 4 (kB false)]) (.seq (.ops [.mv 5 0, .mv 6 1, .call (some 7) 113 [5, 6], .bin 8 .geq 7 (kI 0), .asg 4 8]) .ret))
theorem trgSlices_Contains_Sstring_string:trFn Tryz.prog 136 = some (acgSlices_Contains_Sstring_string, [.mv 0 4], 9):=by kernel_rfl
def qgSlices_Contains_Sstring_string (r:Bool):Exit → St → Prop:=retQ [.mv 0 4] fun x _ => x = (fun y => (vB y)) r
def acgSlices_Index_Sstring_string_L0:AC:=(.loop (.seq (.ops [.bin 9 .lss 8 7]) (.seq (.cond 9 .skip (.exit 0)) (.seq (.block 1 (.seq (.ops [.mv 10 8, .asg 5 10]) (.seq (.ops [.mv 11 1, .mv 12 0, .mv 13 5, .ia 14 1 12 13, .ld 15 1 false 14, .bin 16 .eql 11 15]) (.cond 16 (.seq (.ops [.mv 17 5, .asg 4 17]) .ret) .skip)))) (.ops [.bin 18 .add 8 (kI 1), .mv 8 18])))))
def acgSlices_Index_Sstring_string:AC:=(.seq (.ops [.asg 4 (kI 0)]) (.seq (.seq (.ops [.mv 6 0, .len 7 6, .mv 8 (kI 0)]) (.block 0 acgSlices_Index_Sstring_string_L0)) (.seq (.ops [.asg 4 (kI (-1))]) .ret)))
theorem trgSlices_Index_Sstring_string:trFn Tryz.prog 113 = some (acgSlices_Index_Sstring_string, [.mv 0 4], 19):=by kernel_rfl
def qgSlices_Index_Sstring_string (r:Int):Exit → St → Prop:=retQ [.mv 0 4] fun x _ => x = (fun y => (vI y)) r
def qgSlices_Index_Sstring_string_0 (r:Int):Exit → St → Prop:=(thenK (wkK (avc Tryz.prog (.seq (.ops [.asg 4 (.c (.d (.i .i64 (-1))))]) .ret) (qgSlices_Index_Sstring_string r))) (qgSlices_Index_Sstring_string r))
def qgSlices_Index_Sstring_string_1 (r:Int):Exit → St → Prop:=(blockK 0 (qgSlices_Index_Sstring_string_0 r))
def stgSlices_Index_Sstring_string_L0 (p0:(List (List UInt8))) (p1:(List UInt8)) (x8:Int):St:=⟨[(0,(.d (.sl 1 (p0.map cStr)))),(1,(vS p1)),(7,(vI (p0.length:Int))),(8,(vI x8))], []⟩
def aciSigns:AC:=(.seq (.ops [.asg 0 (.c (.nil 1))]) (.seq (.ops [.bsl 1 9 1 [(.c (.d (.s (bs [40])))),(.c (.d (.s (bs [41])))),(.c (.d (.s (bs [44])))),(.c (.d (.s (bs [46])))),(.c (.d (.s (bs [42])))),(.c (.d (.s (bs [43])))),(.c (.d (.s (bs [45])))),(.c (.d (.s (bs [47])))),(.c (.d (.s (bs [37])))),(.c (.d (.s (bs [61])))),(.c (.d (.s (bs [60, 62])))),(.c (.d (.s (bs [60])))),(.c (.d (.s (bs [60, 61])))),(.c (.d (.s (bs [62])))),(.c (.d (.s (bs [62, 61])))),(.c (.d (.s (bs [124, 124]))))], .asg 0 1]) .ret))
theorem triSigns:trFn Tryz.prog 70 = some (aciSigns, [.mv 0 0], 2):=by kernel_rfl
def qiSigns (r:(List (List UInt8))):Exit → St → Prop:=retQ [.mv 0 0] fun x b => x = (fun (y:(List (List UInt8))) => (.osl 2000000 9 1 (y.map cStr))) r ∧ bxHas ((fun (y:(List (List UInt8))) => []) r) b
set_option maxHeartbeats 2000000 in
set_option maxRecDepth 100000 in
theorem digits_walk_135 (n:Int) (h0:-9223372036854775808 ≤ n) (h1:n ≤ 9223372036854775807) (w:World) (hv:NumVars 1 2 3 w) :
    Calls Tryz.prog 135 #[.int .i64 n] w fun e w' => e = .returned (.string ⟨(Lib.itoa n).toArray⟩) ∧ Grows w w':=by
  go_enter Tryz.func135, Tryz.ntmps135
  go_wp2_with (go_at_call 152; refine (num_itoa (g15:=1) (g16:=2) sh171 n h0 h1 _ hv).mono ?_; rintro e w' ⟨rfl, hw⟩)
  go_ret
  exact ⟨rfl, hw⟩
set_option maxHeartbeats 4000000 in
set_option maxRecDepth 100000 in
theorem number_walk_101:NumWalk Tryz.prog 101 1 2 3:=by
  intro s w hs hv
  by_cases hok:∃ v, Lib.atoiAll s.data.toList = .ok v
  · obtain ⟨v, hc⟩:=hok
    have hb:=Lib.atoiAll_bounds hc
    by_cases hneg:v < 0
    · have hr:numG s.data.toList = (0, false):=by unfold numG; rw [hc]; simp only; rw [if_pos hneg]
      rw [hr]
      go_enter Tryz.func101, Tryz.ntmps101
      go_wp2_with (go_at_call 134; refine (num_ok sh172 s hs v hc _).mono ?_; rintro e w' ⟨rfl, hw⟩)
      go_ret2
      exact ⟨rfl, hw⟩
    · by_cases he:Lib.itoa v = s.data.toList
      · have hr:numG s.data.toList = (v, true):=by unfold numG; rw [hc]; simp only; rw [if_neg hneg, if_pos he]
        have hes:(⟨(Lib.itoa v).toArray⟩:ByteArray) = s:=by rw [he]
        rw [hr]
        go_enter Tryz.func101, Tryz.ntmps101
        go_wp2_with (go_at_call 134; refine (num_ok sh172 s hs v hc _).mono ?_; rintro e w' ⟨rfl, hw⟩)
        go_wp2_with (go_at_call 135; refine (digits_walk_135 v hb.1 hb.2 _ (hv.grow hw)).mono ?_; rintro e w2 ⟨rfl, hw2⟩; rw [hes])
        go_ret2
        exact ⟨rfl, hw.trans hw2⟩
      · have hr:numG s.data.toList = (0, false):=by unfold numG; rw [hc]; simp only; rw [if_neg hneg, if_neg he]
        have hne:(⟨(Lib.itoa v).toArray⟩:ByteArray) ≠ s:=fun e => he (by rw [← e])
        rw [hr]
        generalize hz:(⟨(Lib.itoa v).toArray⟩:ByteArray) = z at hne
        go_enter Tryz.func101, Tryz.ntmps101
        go_wp2_with (go_at_call 134; refine (num_ok sh172 s hs v hc _).mono ?_; rintro e w' ⟨rfl, hw⟩)
        go_wp2_with (go_at_call 135; refine (digits_walk_135 v hb.1 hb.2 _ (hv.grow hw)).mono ?_; rintro e w2 ⟨rfl, hw2⟩; rw [hz])
        · go_ret2
          exact ⟨rfl, hw.trans hw2⟩
        · rename_i hh
          have h2:z.data.toList = s.data.toList:=by
            have:=hh.2
            rw [Lib.toList_data, Lib.toList_data] at this
            simpa using this
          exact absurd ((Lib.mk_data z).symm.trans ((congrArg (fun l:List UInt8 => (⟨l.toArray⟩:ByteArray)) h2).trans (Lib.mk_data s))) hne
  · have hno:∀ v, Lib.atoiAll s.data.toList ≠ .ok v:=fun v e => hok ⟨v, e⟩
    have hr:numG s.data.toList = (0, false):=by
      unfold numG
      split
      · rename_i n hn; exact absurd hn (hno n)
      · rfl
    rw [hr]
    obtain ⟨v, hcall⟩:=num_bad sh172 s hs hno w hv
    go_enter Tryz.func101, Tryz.ntmps101
    go_wp2_with (go_at_call 134; refine hcall.mono ?_)
    rintro e w' ⟨t, N, rfl, hw⟩
    go_wp2
    go_ret2
    exact ⟨rfl, hw⟩
def aciFold_J1:AC:=(.ops [.bin 27 .add 10 (kI 1), .mv 10 27])
def aciFold_L0:AC:=(.loop (.seq (.ops [.bin 11 .lss 10 9]) (.seq (.cond 11 .skip (.exit 0)) (.seq (.block 1 (.seq (.ops [.mv 12 10, .ia 13 1 8 10, .ld 14 1 false 13, .asg 4 12, .asg 5 14]) (.seq (.ops [.mv 15 5, .bin 16 .geq 15 (.c (.d (.i .u8 97))), .mv 17 16, .g 17 true (.mv 18 5), .g 17 true (.bin 19 .leq 18 (.c (.d (.i .u8 122)))), .pick 20 17 19 (kB false)]) (.cond 20 (.ops [.mv 21 3, .mv 22 4, .mv 23 5, .bin 24 .sub 23 (.c (.d (.i .u8 97))), .bin 25 .add 24 (.c (.d (.i .u8 65))), .ia 26 1 21 22, .st 1 26 25]) .skip)))) aciFold_J1))))
def aciFold_J2:AC:=(.seq (.ops [.mv 28 3, .cbs 29 28, .asg 2 29]) .ret)
def aciFold:AC:=(.seq (.ops [.asg 2 (.c (.d (.s (bs []))))]) (.seq (.ops [.mv 6 0, .csb 7 5 6, .asg 3 7]) (.seq (.seq (.ops [.mv 8 3, .len 9 8, .mv 10 (kI 0)]) (.block 0 aciFold_L0)) aciFold_J2)))
theorem triFold:trFn Tryz.prog 68 = some (aciFold, [.mv 0 2], 30):=by kernel_rfl
def qiFold (r:(List UInt8)):Exit → St → Prop:=retQ [.mv 0 2] fun x _ => x = (fun y => (vS y)) r
def qiFold_0 (r:(List UInt8)):Exit → St → Prop:=(thenK (wkK (avc Tryz.prog aciFold_J2 (qiFold r))) (qiFold r))
def qiFold_1 (r:(List UInt8)):Exit → St → Prop:=(blockK 0 (qiFold_0 r))
def qiFold_2 (r:(List UInt8)):Exit → St → Prop:=(thenK (avc Tryz.prog aciFold_L0 (qiFold_1 r)) (qiFold_1 r))
def stiFold_L0 (p0:(List UInt8)) (x10:Int) (b60015000_0:(List Int)):St:=⟨[(3,(.tre 60015000)),(8,(.tre 60015000)),(9,(vI ((toBytes p0).length:Int))),(10,(vI x10))], [(60015000, [(.trc 1 (b60015000_0.map cU8))])]⟩
def stiFold_J1 (p0:(List UInt8)) (x10:Int) (b60050000_0:(List Int)):St:=⟨[(3,(.tre 60050000)),(8,(.tre 60050000)),(9,(vI ((toBytes p0).length:Int))),(10,(vI x10))], [(60050000, [(.trc 1 (b60050000_0.map cU8))])]⟩
def stiFold_J2 (x3:(List Int)):St:=⟨[(3,(.d (.sl 1 (x3.map cU8))))], []⟩
def aciNameOk:AC:=(.seq (.ops [.asg 2 (kB false)]) (.seq (.ops [.mv 3 0, .lns 4 3, .bin 5 .geq 4 (kI 1), .mv 6 5, .g 6 true (.mv 7 0), .g 6 true (.lns 8 7), .g 6 true (.bin 9 .leq 8 (kI 20)), .pick 10 6 9 (kB false), .asg 2 10]) .ret))
theorem triNameOk:trFn Tryz.prog 100 = some (aciNameOk, [.mv 0 2], 11):=by kernel_rfl
def qiNameOk (r:Bool):Exit → St → Prop:=retQ [.mv 0 2] fun x _ => x = (fun y => (vB y)) r
def aciKeyOf:AC:=(.seq (.ops [.asg 2 (kI 0)]) (.seq (.ops [.call (some 3) 114 [], .mv 4 0, .call (some 5) 68 [4], .call (some 6) 113 [3, 5], .bin 7 .add 6 (kI 1), .asg 2 7]) .ret))
theorem triKeyOf:trFn Tryz.prog 67 = some (aciKeyOf, [.mv 0 2], 8):=by kernel_rfl
def qiKeyOf (r:Int):Exit → St → Prop:=retQ [.mv 0 2] fun x _ => x = (fun y => (vI y)) r
def aciKeywords:AC:=(.seq (.ops [.asg 0 (.c (.nil 1))]) (.seq (.ops [.call (some 1) 144 [(.c (.d (.s (bs [83, 69, 76, 69, 67, 84, 32, 68, 73, 83, 84, 73, 78, 67, 84, 32, 70, 82, 79, 77, 32, 74, 79, 73, 78, 32, 79, 78, 32, 87, 72, 69, 82, 69, 32, 79, 82, 68, 69, 82, 32, 66, 89, 32, 65, 83, 67, 32, 68, 69, 83, 67, 32, 76, 73, 77, 73, 84, 32, 65, 83, 32, 65, 78, 68, 32, 79, 82, 32, 78, 79, 84, 32, 73, 83, 32, 73, 78, 32, 66, 69, 84, 87, 69, 69, 78, 32, 69, 88, 73, 83, 84, 83, 32, 78, 85, 76, 76, 32, 84, 82, 85, 69, 32, 70, 65, 76, 83, 69, 32, 73, 78, 83, 69, 82, 84, 32, 73, 78, 84, 79, 32, 86, 65, 76, 85, 69, 83, 32, 85, 80, 68, 65, 84, 69, 32, 83, 69, 84, 32, 68, 69, 76, 69, 84, 69])))),(.c (.d (.s (bs [32]))))], .asg 0 1]) .ret))
theorem triKeywords:trFn Tryz.prog 114 = some (aciKeywords, [.mv 0 0], 2):=by kernel_rfl
def qiKeywords (r:(List (List UInt8))):Exit → St → Prop:=retQ [.mv 0 0] fun x _ => x = (fun y => (.d (.sl 1 (y.map cStr)))) r

def acgStrings_Builder_WriteString_x:AC:=(.seq (.ops [.asg 4 (kI 0), .asg 5 (.c .top)]) (.seq (.ops [.mv 6 0, .call (some 7) 103 [6]]) (.seq (.ops [.mv 8 0, .mv 9 0, .nck 10 9, .fa 11 1 10, .ld 12 1 false 11, .mv 13 1, .app 14 5 1 1 12 13, .nck 15 8, .fa 16 1 15, .st 1 16 14]) (.seq (.ops [.mv 17 1, .lns 18 17, .asg 4 18, .asg 5 (.c .top)]) .ret))))
theorem trgStrings_Builder_WriteString_x:trFn Tryz.prog 52 = some (acgStrings_Builder_WriteString_x, [.mv 0 4, .mv 0 5], 19):=by kernel_rfl
def qgStrings_Builder_WriteString_x (r:Int × (List Int)):Exit → St → Prop:=retQ [.mv 0 4, .mv 0 5] fun x b => x = (fun (y:Int × (List Int)) => (.tup [(vI y.1), .top])) r ∧ bxHas ((fun (y:Int × (List Int)) => [(1000000, [(.bp 1000000 74),(.osl 6000001 5 1 (y.2.map cU8))])]) r) b
set_option maxHeartbeats 2000000 in
set_option maxRecDepth 100000 in
theorem cc_used_103:∀ (b:Nat) (w:World), w.cell? ⟨b, 0, none⟩ = some (.pointer (some ⟨b, 0, none⟩)) → Calls Tryz.prog 103 #[.pointer (some ⟨b, 0, none⟩)] w fun e w' => e = .returned (.tuple #[]) ∧ w' = w:=by
  intro b w h0
  go_enter Tryz.func103, Tryz.ntmps103
  go_wp2
  rw [Lib.run_neq_ptr_same w _ (show Tryz.prog.underlying 72 = some (.pointer 74) by kernel_rfl) (show Tryz.prog.info? 74 = some Tryz.t74 by kernel_rfl)]
  go_wp2
  go_end0
  exact ⟨rfl, rfl⟩
set_option maxHeartbeats 2000000 in
set_option maxRecDepth 100000 in
theorem cc_fresh_103_74:∀ (b:Nat) (w:World) (cs:Array Value), w.heap[b]? = some (.cells cs 74 (0, 0)) → cs.size = 2 → cs[0]? = some (.pointer none) →
    Calls Tryz.prog 103 #[.pointer (some ⟨b, 0, none⟩)] w fun e w' => e = .returned (.tuple #[]) ∧ w' = w.setCell ⟨b, 0, none⟩ (.pointer (some ⟨b, 0, none⟩)):=by
  intro b w cs hh hn hc
  have h0:w.cell? ⟨b, 0, none⟩ = some (.pointer none):=by rw [cell_of_row w b 0 cs 74 (0, 0) hh]; exact hc
  have hsh:w.shape? b = some (74, 2):=by simp [World.shape?, hh, hn]
  have hfz:w.frozen? ⟨b, 0, none⟩ = false:=by simp [World.frozen?, hh]
  go_enter Tryz.func103, Tryz.ntmps103
  go_wp2
  rw [Lib.run_to_unsafe w ⟨b, 0, none⟩ (show Tryz.prog.underlying 72 = some (.pointer 74) by kernel_rfl) (show Tryz.prog.underlying 137 = some (.unsafePointer) by kernel_rfl) (show Tryz.prog.info? 74 = some Tryz.t74 by kernel_rfl) (by decide +kernel) hsh (Nat.zero_lt_succ 1)]
  simp only [Result.andThen]
  rw [Oper.upon_value]
  go_wp2
  rw [run_callFunc_extern Tryz.func137 kr kr kr (e:=Extern.AbiNoEscape.same) kr]
  rw [Lib.run_noEscape]
  simp only [Result.andThen]
  rw [Oper.upon_value]
  go_wp2
  rw [Lib.run_from_unsafe w ⟨b, 0, none⟩ (show Tryz.prog.underlying 137 = some (.unsafePointer) by kernel_rfl) (show Tryz.prog.underlying 72 = some (.pointer 74) by kernel_rfl) (show Tryz.prog.info? 74 = some Tryz.t74 by kernel_rfl) hsh kr]
  simp only [Result.andThen]
  rw [Oper.upon_value]
  go_wp2
  go_end0
  exact ⟨rfl, rfl⟩
def aciTokenText:AC:=(.seq (.ops [.box 1 53 0, .asg 2 (.c (.d (.s (bs []))))]) (.seq (.seq (.ops [.ld 3 3 true 1, .call (some 4) 51 [3], .not 5 4]) (.cond 5 (.seq (.ops [.asg 2 (.c (.d (.s (bs []))))]) .ret) .skip)) (.seq (.seq (.ops [.fa 6 0 1, .ld 7 1 false 6]) (.block 0 (.seq (.ops [.bin 9 .eql 7 (kI 2), .asg 8 9]) (.cond 8 (.seq (.ops [.fa 10 1 1, .ld 11 1 false 10, .call (some 12) 104 [11], .asg 2 12]) .ret) (.seq (.ops [.bin 14 .eql 7 (kI 4), .asg 13 14]) (.cond 13 (.seq (.ops [.fa 15 1 1, .ld 16 1 false 15, .call (some 17) 105 [16], .asg 2 17]) .ret) .skip)))))) (.seq (.ops [.fa 18 1 1, .ld 19 1 false 18, .asg 2 19]) .ret))))
theorem triTokenText:trFn Tryz.prog 53 = some (aciTokenText, [.mv 0 2], 20):=by kernel_rfl
def qiTokenText (r:(List UInt8)):Exit → St → Prop:=retQ [.mv 0 2] fun x _ => x = (fun y => (vS y)) r
def aciNameText:AC:=(.seq (.ops [.asg 2 (.c (.d (.s (bs []))))]) (.seq (.block 0 (.seq (.ops [.mv 4 0, .call (some 5) 100 [4], .not 6 5, .asg 3 6]) (.cond 3 (.seq (.ops [.asg 2 (.c (.d (.s (bs []))))]) .ret) (.seq (.ops [.mv 8 0, .call (some 9) 106 [8], .asg 7 9]) (.cond 7 (.seq (.ops [.mv 10 0, .asg 2 10]) .ret) .skip))))) (.seq (.ops [.mv 11 0, .call (some 12) 138 [11,(.c (.d (.s (bs [34]))))], .asg 2 12]) .ret)))
theorem triNameText:trFn Tryz.prog 104 = some (aciNameText, [.mv 0 2], 13):=by kernel_rfl
def qiNameText (r:(List UInt8)):Exit → St → Prop:=retQ [.mv 0 2] fun x _ => x = (fun y => (vS y)) r
def aciPlainName_L0:AC:=(.loop (.seq (.ops [.bin 20 .lss 19 18]) (.seq (.cond 20 .skip (.exit 0)) (.seq (.block 1 (.seq (.ops [.mv 21 19, .asg 3 21]) (.seq (.ops [.mv 22 0, .mv 23 3, .ix 24 22 23, .call (some 25) 65 [24], .not 26 25]) (.cond 26 (.seq (.ops [.asg 2 (kB false)]) .ret) .skip)))) (.ops [.bin 27 .add 19 (kI 1), .mv 19 27])))))
def aciPlainName:AC:=(.seq (.ops [.asg 2 (kB false)]) (.seq (.seq (.ops [.mv 4 0, .call (some 5) 100 [4], .not 6 5, .mv 7 6, .g 7 false (.mv 8 0), .g 7 false (.ix 9 8 (kI 0)), .g 7 false (.call (some 10) 66 [9]), .pick 11 7 (kB true) 10, .mv 12 11, .g 12 false (.mv 13 0), .g 12 false (.call (some 14) 67 [13]), .g 12 false (.bin 15 .neq 14 (kI 0)), .pick 16 12 (kB true) 15]) (.cond 16 (.seq (.ops [.asg 2 (kB false)]) .ret) .skip)) (.seq (.seq (.ops [.mv 17 0, .lns 18 17, .mv 19 (kI 0)]) (.block 0 aciPlainName_L0)) (.seq (.ops [.asg 2 (kB true)]) .ret))))
theorem triPlainName:trFn Tryz.prog 106 = some (aciPlainName, [.mv 0 2], 28):=by kernel_rfl
def qiPlainName (r:Bool):Exit → St → Prop:=retQ [.mv 0 2] fun x _ => x = (fun y => (vB y)) r
def qiPlainName_0 (r:Bool):Exit → St → Prop:=(thenK (wkK (avc Tryz.prog (.seq (.ops [.asg 2 (.c (.d (.b true)))]) .ret) (qiPlainName r))) (qiPlainName r))
def qiPlainName_1 (r:Bool):Exit → St → Prop:=(blockK 0 (qiPlainName_0 r))
def stiPlainName_L0 (p0:(List UInt8)) (x19:Int):St:=⟨[(0,(vS p0)),(18,(vI (p0.length:Int))),(19,(vI x19))], []⟩
def aciIsDigit:AC:=(.seq (.ops [.asg 2 (kB false)]) (.seq (.ops [.mv 3 0, .bin 4 .geq 3 (.c (.d (.i .u8 48))), .mv 5 4, .g 5 true (.mv 6 0), .g 5 true (.bin 7 .leq 6 (.c (.d (.i .u8 57)))), .pick 8 5 7 (kB false), .asg 2 8]) .ret))
theorem triIsDigit:trFn Tryz.prog 66 = some (aciIsDigit, [.mv 0 2], 9):=by kernel_rfl
def qiIsDigit (r:Bool):Exit → St → Prop:=retQ [.mv 0 2] fun x _ => x = (fun y => (vB y)) r
def aciIsPart:AC:=(.seq (.ops [.asg 2 (kB false)]) (.seq (.ops [.mv 3 0, .call (some 4) 112 [3], .mv 5 4, .g 5 false (.mv 6 0), .g 5 false (.call (some 7) 66 [6]), .pick 8 5 (kB true) 7, .asg 2 8]) .ret))
theorem triIsPart:trFn Tryz.prog 65 = some (aciIsPart, [.mv 0 2], 9):=by kernel_rfl
def qiIsPart (r:Bool):Exit → St → Prop:=retQ [.mv 0 2] fun x _ => x = (fun y => (vB y)) r
def aciIsStart:AC:=(.seq (.ops [.asg 2 (kB false)]) (.seq (.ops [.mv 3 0, .bin 4 .geq 3 (.c (.d (.i .u8 97))), .mv 5 4, .g 5 true (.mv 6 0), .g 5 true (.bin 7 .leq 6 (.c (.d (.i .u8 122)))), .pick 8 5 7 (kB false), .mv 9 8, .g 9 false (.mv 10 0), .g 9 false (.bin 11 .geq 10 (.c (.d (.i .u8 65)))), .g 9 false (.mv 12 11), .g 12 true (.mv 13 0), .g 12 true (.bin 14 .leq 13 (.c (.d (.i .u8 90)))), .g 9 false (.pick 15 12 14 (kB false)), .pick 16 9 (kB true) 15, .mv 17 16, .g 17 false (.mv 18 0), .g 17 false (.bin 19 .eql 18 (.c (.d (.i .u8 95)))), .pick 20 17 (kB true) 19, .asg 2 20]) .ret))
theorem triIsStart:trFn Tryz.prog 112 = some (aciIsStart, [.mv 0 2], 21):=by kernel_rfl
def qiIsStart (r:Bool):Exit → St → Prop:=retQ [.mv 0 2] fun x _ => x = (fun y => (vB y)) r
def aciQuoted:AC:=(.seq (.ops [.asg 4 (.c (.d (.s (bs []))))]) (.seq (.ops [.mv 5 1, .mv 6 0, .mv 7 1, .mv 8 1, .mv 9 1, .bin 10 .add 8 9, .call (some 11) 153 [6, 7, 10], .bin 12 .add 5 11, .mv 13 1, .bin 14 .add 12 13, .asg 4 14]) .ret))
theorem triQuoted:trFn Tryz.prog 138 = some (aciQuoted, [.mv 0 4], 15):=by kernel_rfl
def qiQuoted (r:(List UInt8)):Exit → St → Prop:=retQ [.mv 0 4] fun x _ => x = (fun y => (vS y)) r

def aciQuoteText:AC:=(.seq (.ops [.asg 2 (.c (.d (.s (bs []))))]) (.seq (.ops [.mv 3 0, .call (some 4) 138 [3,(.c (.d (.s (bs [39]))))], .asg 2 4]) .ret))
theorem triQuoteText:trFn Tryz.prog 105 = some (aciQuoteText, [.mv 0 2], 5):=by kernel_rfl
def qiQuoteText (r:(List UInt8)):Exit → St → Prop:=retQ [.mv 0 2] fun x _ => x = (fun y => (vS y)) r
def aciNeedsGap:AC:=(.seq (.ops [.box 2 53 0, .box 3 53 1, .asg 4 (kB false)]) (.seq (.seq (.ops [.ld 5 3 true 2, .call (some 6) 51 [5], .not 7 6, .mv 8 7, .g 8 false (.ld 9 3 true 3), .g 8 false (.call (some 10) 51 [9]), .g 8 false (.not 11 10), .pick 12 8 (kB true) 11]) (.cond 12 (.seq (.ops [.asg 4 (kB false)]) .ret) .skip)) (.seq (.seq (.ops [.ld 13 3 true 2, .call (some 14) 56 [13], .mv 15 14, .g 15 true (.ld 16 3 true 3), .g 15 true (.call (some 17) 56 [16]), .pick 18 15 17 (kB false), .mv 19 18, .g 19 false (.ld 20 3 true 2), .g 19 false (.call (some 21) 57 [20]), .g 19 false (.mv 22 21), .g 22 true (.ld 23 3 true 3), .g 22 true (.call (some 24) 57 [23]), .g 19 false (.pick 25 22 24 (kB false)), .pick 26 19 (kB true) 25, .mv 27 26, .g 27 false (.fa 28 0 2), .g 27 false (.ld 29 1 false 28), .g 27 false (.bin 30 .eql 29 (kI 4)), .g 27 false (.mv 31 30), .g 31 true (.fa 32 0 3), .g 31 true (.ld 33 1 false 32), .g 31 true (.bin 34 .eql 33 (kI 4)), .g 27 false (.pick 35 31 34 (kB false)), .pick 36 27 (kB true) 35]) (.cond 36 (.seq (.ops [.asg 4 (kB true)]) .ret) .skip)) (.seq (.seq (.ops [.fa 37 0 2, .ld 38 1 false 37, .bin 39 .neq 38 (kI 5), .mv 40 39, .g 40 false (.fa 41 0 3), .g 40 false (.ld 42 1 false 41), .g 40 false (.bin 43 .neq 42 (kI 5)), .pick 44 40 (kB true) 43]) (.cond 44 (.seq (.ops [.asg 4 (kB false)]) .ret) .skip)) (.seq (.seq (.ops [.fa 45 1 2, .ld 46 1 false 45]) (.block 0 (.seq (.ops [.bin 48 .eql 46 (.c (.d (.s (bs [45])))), .asg 47 48]) (.cond 47 (.seq (.ops [.fa 49 1 3, .ld 50 1 false 49, .bin 51 .eql 50 (.c (.d (.s (bs [45])))), .asg 4 51]) .ret) (.seq (.ops [.bin 53 .eql 46 (.c (.d (.s (bs [47])))), .asg 52 53]) (.cond 52 (.seq (.ops [.fa 54 1 3, .ld 55 1 false 54, .bin 56 .eql 55 (.c (.d (.s (bs [42])))), .asg 4 56]) .ret) (.seq (.ops [.bin 58 .eql 46 (.c (.d (.s (bs [60])))), .asg 57 58]) (.cond 57 (.seq (.ops [.fa 59 1 3, .ld 60 1 false 59, .ix 61 60 (kI 0), .bin 62 .eql 61 (.c (.d (.i .u8 61))), .mv 63 62, .g 63 false (.fa 64 1 3), .g 63 false (.ld 65 1 false 64), .g 63 false (.ix 66 65 (kI 0)), .g 63 false (.bin 67 .eql 66 (.c (.d (.i .u8 62)))), .pick 68 63 (kB true) 67, .asg 4 68]) .ret) (.seq (.ops [.bin 70 .eql 46 (.c (.d (.s (bs [62])))), .asg 69 70]) (.cond 69 (.seq (.ops [.fa 71 1 3, .ld 72 1 false 71, .ix 73 72 (kI 0), .bin 74 .eql 73 (.c (.d (.i .u8 61))), .asg 4 74]) .ret) .skip)))))))))) (.seq (.ops [.asg 4 (kB false)]) .ret))))))
theorem triNeedsGap:trFn Tryz.prog 34 = some (aciNeedsGap, [.mv 0 4], 75):=by kernel_rfl
def qiNeedsGap (r:Bool):Exit → St → Prop:=retQ [.mv 0 4] fun x _ => x = (fun y => (vB y)) r
def aciIsQuotedName:AC:=(.seq (.ops [.box 1 53 0, .asg 2 (kB false)]) (.seq (.ops [.fa 3 0 1, .ld 4 1 false 3, .bin 5 .eql 4 (kI 2), .mv 6 5, .g 6 true (.fa 7 1 1), .g 6 true (.ld 8 1 false 7), .g 6 true (.call (some 9) 106 [8]), .g 6 true (.not 10 9), .pick 11 6 10 (kB false), .asg 2 11]) .ret))
theorem triIsQuotedName:trFn Tryz.prog 57 = some (aciIsQuotedName, [.mv 0 2], 12):=by kernel_rfl
def qiIsQuotedName (r:Bool):Exit → St → Prop:=retQ [.mv 0 2] fun x _ => x = (fun y => (vB y)) r
def aciIsWord:AC:=(.seq (.ops [.box 1 53 0, .asg 2 (kB false)]) (.seq (.ops [.fa 3 0 1, .ld 4 1 false 3, .bin 5 .eql 4 (kI 1), .mv 6 5, .g 6 false (.fa 7 0 1), .g 6 false (.ld 8 1 false 7), .g 6 false (.bin 9 .eql 8 (kI 3)), .pick 10 6 (kB true) 9, .mv 11 10, .g 11 false (.fa 12 0 1), .g 11 false (.ld 13 1 false 12), .g 11 false (.bin 14 .eql 13 (kI 2)), .g 11 false (.mv 15 14), .g 15 true (.fa 16 1 1), .g 15 true (.ld 17 1 false 16), .g 15 true (.call (some 18) 106 [17]), .g 11 false (.pick 19 15 18 (kB false)), .pick 20 11 (kB true) 19, .asg 2 20]) .ret))
theorem triIsWord:trFn Tryz.prog 56 = some (aciIsWord, [.mv 0 2], 21):=by kernel_rfl
def qiIsWord (r:Bool):Exit → St → Prop:=retQ [.mv 0 2] fun x _ => x = (fun y => (vB y)) r
def acgStrings_Builder_Len_x:AC:=(.seq (.ops [.asg 2 (kI 0)]) (.seq (.ops [.mv 3 0, .nck 4 3, .fa 5 1 4, .ld 6 1 false 5, .len 7 6, .asg 2 7]) .ret))
theorem trgStrings_Builder_Len_x:trFn Tryz.prog 54 = some (acgStrings_Builder_Len_x, [.mv 0 2], 8):=by kernel_rfl
def qgStrings_Builder_Len_x (c0_1:(List Int)) (r:Int):Exit → St → Prop:=retQ [.mv 0 2] fun x b => x = (fun (y:Int) => (vI y)) r ∧ bxHas ((fun (y:Int) => [(1000000, [(.bp 1000000 74),(.osl 6000001 5 1 (c0_1.map cU8))])]) r) b
set_option maxHeartbeats 2000000 in
set_option maxRecDepth 100000 in
theorem bstr_row_55:∀ (b g cap:Nat) (cur:Array Value) (s:List UInt8) (w:World), w.cell? ⟨b, 1, none⟩ = some (.slice (some ⟨g, 0, none⟩) s.length cap) → s ≠ [] → s.length ≤ cap → cap ≤ maxLen → cur.size = cap * 1 →
    w.heap[g]? = some (.cells cur 5 (0, 0)) → (∀ j x, s[j]? = some x → w.cell? ((⟨g, 0, none⟩:Addr).add j) = some (.int .u8 x.toNat)) →
    Calls Tryz.prog 55 #[.pointer (some ⟨b, 0, none⟩)] w fun e w' => e = .returned (.string ⟨s.toArray⟩) ∧ w' = w.drew.freeze ⟨g, 0, none⟩ s.length:=by
  intro b g cap cur s w c0 h0 hnc hcm hcs hg hcell
  have hl0:s.length ≠ 0:=by simpa using h0
  have c1:w.drew.cell? ⟨b, 1, none⟩ = some (.slice (some ⟨g, 0, none⟩) s.length cap):=c0
  have hSD:(Builtin.unsafeSliceData_ #[29] 125 #[.slice (some ⟨g, 0, none⟩) s.length cap]).run Tryz.prog w.drew = .ok (.pointer (some ⟨g, 0, none⟩)) w.drew :=
    Lib.run_unsafeSliceData_row _ _ _ _ _ _ (by omega)
  have hUS:(Builtin.unsafeString_ #[125, 3] 9 #[.pointer (some ⟨g, 0, none⟩), .int .i64 s.length]).run Tryz.prog w.drew = .ok (.string ⟨s.toArray⟩) (w.drew.freeze ⟨g, 0, none⟩ s.length):=by
    refine Lib.run_unsafeString_row w.drew 125 3 9 5 (show Tryz.prog.underlying 125 = some (.pointer 5) by kernel_rfl) (show Tryz.prog.cellsOf 5 = 1 by kernel_rfl) g cur.size (by have hg':w.drew.heap[g]? = some (.cells cur 5 (0, 0)):=hg; simp [World.shape?, hg']) s h0 (by omega) (by unfold maxLen at hcm; omega) ?_
    intro j x hx
    exact hcell j x hx
  go_enter Tryz.func55, Tryz.ntmps55
  go_wp2
  go_region
  all_goals (go_wp2; go_ret; exact ⟨rfl, rfl⟩)
set_option maxHeartbeats 2000000 in
set_option maxRecDepth 100000 in
theorem bstr_nil_55:∀ (b:Nat) (w:World), w.cell? ⟨b, 1, none⟩ = some (.slice none 0 0) → Calls Tryz.prog 55 #[.pointer (some ⟨b, 0, none⟩)] w fun e w' => e = .returned (.string ⟨#[]⟩) ∧ w' = w.drew:=by
  intro b w c0
  have hUS:∀ (W:World) (q:Option Addr),(Builtin.unsafeString_ #[125, 3] 9 #[.pointer q, .int .i64 0]).run Tryz.prog W = .ok (.string .empty) W:=fun W q => Lib.run_unsafeString_none W _ _ _ q
  have c1:w.drew.cell? ⟨b, 1, none⟩ = some (.slice none 0 0):=c0
  have hSD:(Builtin.unsafeSliceData_ #[29] 125 #[.slice none 0 0]).run Tryz.prog w.drew = .ok (.pointer none) w.drew:=rfl
  go_enter Tryz.func55, Tryz.ntmps55
  go_wp2
  go_region
  all_goals (go_wp2; go_ret; exact ⟨rfl, rfl⟩)
set_option maxHeartbeats 2000000 in
set_option maxRecDepth 100000 in
theorem bstr_noroom_55:∀ (b g:Nat) (cur:Array Value) (w:World), w.cell? ⟨b, 1, none⟩ = some (.slice (some ⟨g, 0, none⟩) 0 0) → b < w.heap.size → w.heap[g]? = some (.cells cur 5 (0, 0)) →
    Calls Tryz.prog 55 #[.pointer (some ⟨b, 0, none⟩)] w fun e' w' => e' = .returned (.string ⟨#[]⟩) ∧ w' = w.drew.alloc (.view ⟨g, 0, none⟩ 5):=by
  intro b g cur w c0 hlt hg
  have hUS:∀ (W:World) (q:Option Addr),(Builtin.unsafeString_ #[125, 3] 9 #[.pointer q, .int .i64 0]).run Tryz.prog W = .ok (.string .empty) W:=fun W q => Lib.run_unsafeString_none W _ _ _ q
  have c1:w.drew.cell? ⟨b, 1, none⟩ = some (.slice (some ⟨g, 0, none⟩) 0 0):=c0
  have hSD:(Builtin.unsafeSliceData_ #[29] 125 #[.slice (some ⟨g, 0, none⟩) 0 0]).run Tryz.prog w.drew = .ok (.pointer (some ⟨w.drew.heap.size, 0, none⟩)) (w.drew.alloc (.view ⟨g, 0, none⟩ 5)) :=
    Lib.run_unsafeSliceData_zero w.drew _ _ 5 (show Tryz.prog.underlying 125 = some (.pointer 5) by kernel_rfl) ⟨g, 0, none⟩ 0 (5, cur.size) (by have hg':w.drew.heap[g]? = some (.cells cur 5 (0, 0)):=hg; simp [World.shape?, hg'])
  have c2:(w.drew.alloc (.view ⟨g, 0, none⟩ 5)).cell? ⟨b, 1, none⟩ = some (.slice (some ⟨g, 0, none⟩) 0 0) :=
    (World.cell?_of_block (a:=⟨b, 1, none⟩) (RowKit.Below.heap_alloc w.drew _ b hlt)).trans c1
  have c3:(w.alloc (.view ⟨g, 0, none⟩ 5)).drew.cell? ⟨b, 1, none⟩ = some (.slice (some ⟨g, 0, none⟩) 0 0):=c2
  go_enter Tryz.func55, Tryz.ntmps55
  go_wp2
  go_region
  all_goals (go_wp2; go_ret; exact ⟨rfl, rfl⟩)
set_option maxHeartbeats 2000000 in
set_option maxRecDepth 100000 in
theorem bstr_room_55:∀ (b g cap:Nat) (w:World), cap ≠ 0 → w.cell? ⟨b, 1, none⟩ = some (.slice (some ⟨g, 0, none⟩) 0 cap) → Calls Tryz.prog 55 #[.pointer (some ⟨b, 0, none⟩)] w fun e w' => e = .returned (.string ⟨#[]⟩) ∧ w' = w.drew:=by
  intro b g cap w hc0 c0
  have hUS:∀ (W:World) (q:Option Addr),(Builtin.unsafeString_ #[125, 3] 9 #[.pointer q, .int .i64 0]).run Tryz.prog W = .ok (.string .empty) W:=fun W q => Lib.run_unsafeString_none W _ _ _ q
  have c1:w.drew.cell? ⟨b, 1, none⟩ = some (.slice (some ⟨g, 0, none⟩) 0 cap):=c0
  have hSD:(Builtin.unsafeSliceData_ #[29] 125 #[.slice (some ⟨g, 0, none⟩) 0 cap]).run Tryz.prog w.drew = .ok (.pointer (some ⟨g, 0, none⟩)) w.drew :=
    Lib.run_unsafeSliceData_row _ _ _ _ _ _ hc0
  clear hc0
  go_enter Tryz.func55, Tryz.ntmps55
  go_wp2
  go_region
  all_goals (go_wp2; go_ret; exact ⟨rfl, rfl⟩)
def aciLex_L0:AC:=(.loop (.block 1 (.seq (.ops [.mv 16 0, .mv 17 5, .call (some 18) 37 [16, 17], .mv 15 18, .ext 19 15 0, .ext 20 15 1, .asg 6 19, .asg 7 20]) (.seq (.seq (.ops [.mv 21 7, .not 22 21]) (.cond 22 (.seq (.ops [.mv 23 6, .asg 2 (.c (.nil 3)), .asg 3 23]) .ret) .skip)) (.seq (.seq (.ops [.mv 24 6, .mv 25 0, .lns 26 25, .bin 27 .eql 24 26]) (.cond 27 (.seq (.ops [.mv 28 4, .asg 2 28, .asg 3 (kI (-1))]) .ret) .skip)) (.seq (.ops [.mv 30 0, .mv 31 6, .call (some 32) 38 [30, 31], .mv 29 32, .ext 33 29 0, .ext 34 29 1, .ext 35 29 2, .alc 8 [(.d (.i .i64 0)),(.d (.s (bs []))),(.d (.i .i64 0))], .st 3 8 33, .asg 9 34, .asg 10 35]) (.seq (.seq (.ops [.mv 36 10, .not 37 36]) (.cond 37 (.seq (.ops [.mv 38 6, .asg 2 (.c (.nil 3)), .asg 3 38]) .ret) .skip)) (.seq (.ops [.mv 39 4, .ld 40 3 true 8, .bsl 41 53 3 [40], .app 42 53 3 32 39 41, .asg 4 42]) (.ops [.mv 43 9, .asg 5 43])))))))))
def aciLex:AC:=(.seq (.ops [.asg 2 (.c (.nil 3)), .asg 3 (kI 0)]) (.seq (.seq (.ops [.mv 11 0, .lns 12 11, .bin 13 .gtr 12 (kI 2000)]) (.cond 13 (.seq (.ops [.asg 2 (.c (.nil 3)), .asg 3 (kI 2000)]) .ret) .skip)) (.seq (.ops [.bsl 14 53 3 [], .asg 4 14]) (.seq (.ops [.asg 5 (kI 0)]) (.block 0 aciLex_L0)))))
theorem triLex:trFn Tryz.prog 18 = some (aciLex, [.mv 0 2, .mv 0 3], 44):=by kernel_rfl
def qiLex (r:(List GToken) × Int):Exit → St → Prop:=retQ [.mv 0 2, .mv 0 3] fun x b => x = (fun (y:(List GToken) × Int) => (.tup [(.osl 2000000 53 3 (y.1.map cGToken)),(vI y.2)])) r ∧ bxHas ((fun (y:(List GToken) × Int) => []) r) b
def qiLex_0 (r:(List GToken) × Int):Exit → St → Prop:=(blockK 0 (qiLex r))
def stiLex_L0 (p0:(List UInt8)) (x4:(List GToken)) (x5:Int):St:=⟨[(0,(vS p0)),(4,(.osl 4 53 3 (x4.map cGToken))),(5,(vI x5))], []⟩
def aciReadToken_L0:AC:=(.loop (.seq (.seq (.ops [.mv 52 8, .mv 53 0, .lns 54 53, .bin 55 .lss 52 54, .mv 56 55, .g 56 true (.mv 57 0), .g 56 true (.mv 58 8), .g 56 true (.ix 59 57 58), .g 56 true (.call (some 60) 65 [59]), .pick 61 56 60 (kB false)]) (.cond 61 .skip (.exit 3))) (.block 4 (.ops [.mv 62 8, .bin 63 .add 62 (kI 1), .asg 8 63]))))
def aciReadToken_J1:AC:=(.seq (.dops [[], [], [], [2], [0, 3, 0], [1, 4, 0, 1, 4], [3, 5, 0, 1, 2, 3, 4, 5]] [.ld 106 3 true 7, .mv 107 8, .ld 108 3 true 7, .call (some 109) 51 [108], .st 3 4 106, .asg 5 107, .asg 6 109]) .ret)
def aciReadToken_J3:AC:=(.ops [.bin 43 .add 24 (kI 1), .mv 24 43])
def aciReadToken_L2:AC:=(.loop (.seq (.ops [.bin 25 .lss 24 23]) (.seq (.cond 25 .skip (.exit 1)) (.seq (.block 2 (.seq (.ops [.ia 26 1 22 24, .ld 27 1 false 26, .asg 14 27]) (.seq (.ops [.mv 28 0, .mv 29 1, .sls 30 28 (some 29) none, .mv 31 14, .call (some 32) 63 [30, 31], .mv 33 32, .g 33 true (.mv 34 14), .g 33 true (.lns 35 34), .g 33 true (.fa 36 1 7), .g 33 true (.ld 37 1 false 36), .g 33 true (.lns 38 37), .g 33 true (.bin 39 .gtr 35 38), .pick 40 33 39 (kB false)]) (.cond 40 (.ops [.mv 41 14, .fa 42 1 7, .st 1 42 41]) .skip)))) aciReadToken_J3))))
def aciReadToken:AC:=(.seq (.ops [.alc 4 [(.d (.i .i64 0)),(.d (.s (bs []))),(.d (.i .i64 0))], .asg 5 (kI 0), .asg 6 (kB false)]) (.seq (.ops [.mv 15 1, .bld 16 [(.d (.i .i64 0)),(.d (.s (bs []))),(.d (.i .i64 0))] [(2, 1, 15)], .alc 7 [(.d (.i .i64 0)),(.d (.s (bs []))),(.d (.i .i64 0))], .st 3 7 16]) (.seq (.ops [.mv 17 1, .asg 8 17]) (.seq (.seq (.ops [.mv 18 0, .mv 19 1, .ix 20 18 19, .asg 9 20]) (.block 0 (.seq (.ops [.mv 50 9, .call (some 51) 65 [50], .asg 49 51]) (.cond 49 (.seq (.block 3 aciReadToken_L0) (.seq (.dops [[], [], [], [0, 1, 2], [], [4], [0, 1, 2, 3, 4, 5], [6, 3, 5, 0, 1, 2, 3, 4, 5]] [.mv 64 0, .mv 65 1, .mv 66 8, .sls 67 64 (some 65) (some 66), .fa 68 0 7, .st 1 68 (kI 2), .fa 69 1 7, .st 1 69 67]) (.seq (.ops [.mv 70 9, .call (some 71) 66 [70]]) (.cond 71 (.ops [.fa 72 0 7, .st 1 72 (kI 3)]) (.seq (.ops [.fa 73 1 7, .ld 74 1 false 73, .call (some 75) 67 [74], .bin 76 .neq 75 (kI 0)]) (.cond 76 (.ops [.fa 77 1 7, .ld 78 1 false 77, .call (some 79) 68 [78], .fa 80 0 7, .st 1 80 (kI 1), .fa 81 1 7, .st 1 81 79]) .skip)))))) (.seq (.ops [.mv 83 9, .bin 84 .eql 83 (.c (.d (.i .u8 34))), .mv 85 84, .g 85 false (.mv 86 9), .g 85 false (.bin 87 .eql 86 (.c (.d (.i .u8 39)))), .pick 88 85 (kB true) 87, .asg 82 88]) (.cond 82 (.seq (.ops [.mv 90 0, .mv 91 1, .call (some 92) 69 [90, 91], .mv 89 92, .ext 93 89 0, .ext 94 89 1, .ext 95 89 2, .asg 10 93, .asg 11 94, .asg 12 95]) (.seq (.seq (.ops [.mv 96 12, .not 97 96]) (.cond 97 (.seq (.ops [.bld 98 [(.d (.i .i64 0)),(.d (.s (bs []))),(.d (.i .i64 0))] [], .st 3 4 98, .asg 5 (kI 0), .asg 6 (kB false)]) .ret) .skip)) (.seq (.ops [.mv 99 11, .asg 8 99]) (.seq (.ops [.mv 100 10, .fa 101 0 7, .st 1 101 (kI 2), .fa 102 1 7, .st 1 102 100]) (.seq (.ops [.mv 103 9, .bin 104 .eql 103 (.c (.d (.i .u8 39)))]) (.cond 104 (.ops [.fa 105 0 7, .st 1 105 (kI 4)]) .skip)))))) (.seq (.ops [.fa 21 0 7, .st 1 21 (kI 5)]) (.seq (.seq (.ops [.call (some 22) 70 [], .len 23 22, .mv 24 (kI 0)]) (.block 1 aciReadToken_L2)) (.ops [.mv 44 8, .fa 45 1 7, .ld 46 1 false 45, .lns 47 46, .bin 48 .add 44 47, .asg 8 48]))))))))) aciReadToken_J1))))
theorem triReadToken:trFn Tryz.prog 38 = some (aciReadToken, [.ld 0 3 true 4, .mv 0 5, .mv 0 6], 110):=by kernel_rfl
def qiReadToken (r:GToken × Int × Bool):Exit → St → Prop:=retQ [.ld 0 3 true 4, .mv 0 5, .mv 0 6] fun x _ => x = (fun y => (.tup [(vGToken y.1),(vI y.2.1),(vB y.2.2)])) r
def qiReadToken_0 (r:GToken × Int × Bool):Exit → St → Prop:=(thenK (wkK (avc Tryz.prog aciReadToken_J1 (qiReadToken r))) (qiReadToken r))
def qiReadToken_1 (r:GToken × Int × Bool):Exit → St → Prop:=(blockK 0 (qiReadToken_0 r))
def qiReadToken_2 (r:GToken × Int × Bool):Exit → St → Prop:=(thenK (wkK (avc Tryz.prog (.seq (.dops [[], [], [], [0, 1, 2], [], [4], [0, 1, 2, 3, 4, 5], [6, 3, 5, 0, 1, 2, 3, 4, 5]] [.mv 64 0, .mv 65 1, .mv 66 8, .sls 67 64 (some 65) (some 66), .fa 68 0 7, .st 1 68 (.c (.d (.i .i64 2))), .fa 69 1 7, .st 1 69 67]) (.seq (.ops [.mv 70 9, .call (some 71) 66 [70]]) (.cond 71 (.ops [.fa 72 0 7, .st 1 72 (.c (.d (.i .i64 3)))]) (.seq (.ops [.fa 73 1 7, .ld 74 1 false 73, .call (some 75) 67 [74], .bin 76 .neq 75 (.c (.d (.i .i64 0)))]) (.cond 76 (.ops [.fa 77 1 7, .ld 78 1 false 77, .call (some 79) 68 [78], .fa 80 0 7, .st 1 80 (.c (.d (.i .i64 1))), .fa 81 1 7, .st 1 81 79]) .skip))))) (qiReadToken_1 r))) (qiReadToken_1 r))
def qiReadToken_3 (r:GToken × Int × Bool):Exit → St → Prop:=(blockK 3 (qiReadToken_2 r))
def qiReadToken_4 (r:GToken × Int × Bool):Exit → St → Prop:=(thenK (wkK (avc Tryz.prog (.ops [.mv 44 8, .fa 45 1 7, .ld 46 1 false 45, .lns 47 46, .bin 48 .add 44 47, .asg 8 48]) (qiReadToken_1 r))) (qiReadToken_1 r))
def qiReadToken_5 (r:GToken × Int × Bool):Exit → St → Prop:=(blockK 1 (qiReadToken_4 r))
def qiReadToken_6 (r:GToken × Int × Bool):Exit → St → Prop:=(thenK (avc Tryz.prog aciReadToken_L2 (qiReadToken_5 r)) (qiReadToken_5 r))
def stiReadToken_L0 (p0:(List UInt8)) (p1:Int) (y1:Int) (x8:Int):St:=⟨[(0,(vS p0)),(1,(vI p1)),(4,(.ptr 4 0)),(7,(.ptr 7 0)),(8,(vI x8)),(9,(.d (.i .u8 y1)))], [(4, [(vI 0),(vS []),(vI 0)]),(7, bGToken (GToken.mk 0 [] p1))]⟩
def stiReadToken_J1 (p1:Int) (x8_5:Int) (b7_0:Int) (b7_1:(List UInt8)):St:=⟨[(4,(.ptr 4 0)),(7,(.ptr 7 0)),(8,(vI x8_5))], [(4, [(vI 0),(vS []),(vI 0)]),(7, bGToken (GToken.mk b7_0 b7_1 p1))]⟩
def stiReadToken_L2 (p0:(List UInt8)) (p1:Int) (y6:(List (List UInt8))) (x24:Int) (b7_1_7:(List UInt8)):St:=⟨[(0,(vS p0)),(1,(vI p1)),(4,(.ptr 4 0)),(7,(.ptr 7 0)),(8,(vI p1)),(22,(.osl 22 9 1 (y6.map cStr))),(23,(vI (y6.length:Int))),(24,(vI x24))], [(4, [(vI 0),(vS []),(vI 0)]),(7, bGToken (GToken.mk 5 b7_1_7 p1))]⟩
def stiReadToken_J3 (p0:(List UInt8)) (p1:Int) (y6:(List (List UInt8))) (x24:Int) (b7_1_20:(List UInt8)):St:=⟨[(0,(vS p0)),(1,(vI p1)),(4,(.ptr 4 0)),(7,(.ptr 7 0)),(8,(vI p1)),(22,(.osl 22 9 1 (y6.map cStr))),(23,(vI (y6.length:Int))),(24,(vI x24))], [(4, [(vI 0),(vS []),(vI 0)]),(7, bGToken (GToken.mk 5 b7_1_20 p1))]⟩
def aciReadQuoted_J1:AC:=(.ops [.mv 46 8, .mv 47 0, .mv 48 9, .ix 49 47 48, .bsl 50 5 1 [49], .app 51 5 1 1 46 50, .asg 8 51])
def aciReadQuoted_L0:AC:=(.loop (.seq (.seq (.ops [.mv 16 9, .mv 17 0, .lns 18 17, .bin 19 .lss 16 18]) (.cond 19 .skip (.exit 0))) (.seq (.block 1 (.seq (.seq (.ops [.mv 22 0, .mv 23 9, .ix 24 22 23, .mv 25 7, .bin 26 .eql 24 25]) (.cond 26 (.seq (.seq (.ops [.mv 27 9, .bin 28 .add 27 (kI 1), .mv 29 0, .lns 30 29, .bin 31 .eql 28 30, .mv 32 31, .g 32 false (.mv 33 0), .g 32 false (.mv 34 9), .g 32 false (.bin 35 .add 34 (kI 1)), .g 32 false (.ix 36 33 35), .g 32 false (.mv 37 7), .g 32 false (.bin 38 .neq 36 37), .pick 39 32 (kB true) 38]) (.cond 39 (.seq (.ops [.mv 40 8, .cbs 41 40, .mv 42 9, .bin 43 .add 42 (kI 1), .asg 4 41, .asg 5 43, .asg 6 (kB true)]) .ret) .skip)) (.ops [.mv 44 9, .bin 45 .add 44 (kI 1), .asg 9 45])) .skip)) aciReadQuoted_J1)) (.ops [.mv 20 9, .bin 21 .add 20 (kI 1), .asg 9 21]))))
def aciReadQuoted:AC:=(.seq (.ops [.asg 4 (.c (.d (.s (bs [])))), .asg 5 (kI 0), .asg 6 (kB false)]) (.seq (.ops [.mv 10 0, .mv 11 1, .ix 12 10 11, .asg 7 12]) (.seq (.ops [.bsl 13 5 1 [], .asg 8 13]) (.seq (.seq (.ops [.mv 14 1, .bin 15 .add 14 (kI 1), .asg 9 15]) (.block 0 aciReadQuoted_L0)) (.seq (.ops [.asg 4 (.c (.d (.s (bs [])))), .asg 5 (kI 0), .asg 6 (kB false)]) .ret)))))
theorem triReadQuoted:trFn Tryz.prog 69 = some (aciReadQuoted, [.mv 0 4, .mv 0 5, .mv 0 6], 52):=by kernel_rfl
def qiReadQuoted (r:(List UInt8) × Int × Bool):Exit → St → Prop:=retQ [.mv 0 4, .mv 0 5, .mv 0 6] fun x _ => x = (fun y => (.tup [(vS y.1),(vI y.2.1),(vB y.2.2)])) r
def qiReadQuoted_0 (r:(List UInt8) × Int × Bool):Exit → St → Prop:=(thenK (wkK (avc Tryz.prog (.seq (.ops [.asg 4 (.c (.d (.s (bs [])))), .asg 5 (.c (.d (.i .i64 0))), .asg 6 (.c (.d (.b false)))]) .ret) (qiReadQuoted r))) (qiReadQuoted r))
def qiReadQuoted_1 (r:(List UInt8) × Int × Bool):Exit → St → Prop:=(blockK 0 (qiReadQuoted_0 r))
def qiReadQuoted_2 (r:(List UInt8) × Int × Bool):Exit → St → Prop:=(thenK (avc Tryz.prog aciReadQuoted_L0 (qiReadQuoted_1 r)) (qiReadQuoted_1 r))
def qiReadQuoted_3 (r:(List UInt8) × Int × Bool):Exit → St → Prop:=(thenK (wkK (avc Tryz.prog (.ops [.mv 20 9, .bin 21 .add 20 (.c (.d (.i .i64 1))), .asg 9 21]) (qiReadQuoted_2 r))) (qiReadQuoted_2 r))
def qiReadQuoted_4 (r:(List UInt8) × Int × Bool):Exit → St → Prop:=(blockK 1 (qiReadQuoted_3 r))
def stiReadQuoted_L0 (p0:(List UInt8)) (y1:Int) (x8:(List Int)) (x9:Int):St:=⟨[(0,(vS p0)),(7,(.d (.i .u8 y1))),(8,(.osl 8 5 1 (x8.map cU8))),(9,(vI x9))], []⟩
def stiReadQuoted_J1 (p0:(List UInt8)) (y1:Int) (x8:(List Int)) (x9_6:Int):St:=⟨[(0,(vS p0)),(7,(.d (.i .u8 y1))),(8,(.osl 8 5 1 (x8.map cU8))),(9,(vI x9_6))], []⟩
def acgStrings_HasPrefix:AC:=(.seq (.ops [.asg 4 (kB false)]) (.seq (.ops [.mv 5 0, .mv 6 1, .call (some 7) 110 [5, 6], .asg 4 7]) .ret))
theorem trgStrings_HasPrefix:trFn Tryz.prog 63 = some (acgStrings_HasPrefix, [.mv 0 4], 8):=by kernel_rfl
def qgStrings_HasPrefix (r:Bool):Exit → St → Prop:=retQ [.mv 0 4] fun x _ => x = (fun y => (vB y)) r
def acgInternal_stringslite_HasPrefix:AC:=(.seq (.ops [.asg 4 (kB false)]) (.seq (.ops [.mv 5 0, .lns 6 5, .mv 7 1, .lns 8 7, .bin 9 .geq 6 8, .mv 10 9, .g 10 true (.mv 11 0), .g 10 true (.mv 12 1), .g 10 true (.lns 13 12), .g 10 true (.sls 14 11 none (some 13)), .g 10 true (.mv 15 1), .g 10 true (.bin 16 .eql 14 15), .pick 17 10 16 (kB false), .asg 4 17]) .ret))
theorem trgInternal_stringslite_HasPrefix:trFn Tryz.prog 110 = some (acgInternal_stringslite_HasPrefix, [.mv 0 4], 18):=by kernel_rfl
def qgInternal_stringslite_HasPrefix (r:Bool):Exit → St → Prop:=retQ [.mv 0 4] fun x _ => x = (fun y => (vB y)) r
def aciSkip_L0:AC:=(.loop (.seq (.seq (.ops [.mv 9 1, .mv 10 0, .lns 11 10, .bin 12 .lss 9 11]) (.cond 12 .skip (.exit 0))) (.block 1 (.seq (.ops [.mv 13 0, .mv 14 1, .sls 15 13 (some 14) none, .asg 6 15]) (.block 2 (.seq (.ops [.mv 18 0, .mv 19 1, .ix 20 18 19, .call (some 21) 62 [(.c (.d (.s (bs [32, 9, 10, 13])))), 20], .bin 22 .geq 21 (kI 0), .asg 17 22]) (.cond 17 (.ops [.mv 23 1, .bin 24 .add 23 (kI 1), .asg 1 24]) (.seq (.ops [.mv 26 6, .call (some 27) 63 [26,(.c (.d (.s (bs [45, 45]))))], .asg 25 27]) (.cond 25 (.seq (.ops [.mv 28 6, .call (some 29) 62 [28,(.c (.d (.i .u8 10)))], .asg 7 29]) (.seq (.seq (.ops [.mv 30 7, .bin 31 .lss 30 (kI 0)]) (.cond 31 (.seq (.ops [.mv 32 0, .lns 33 32, .asg 4 33, .asg 5 (kB true)]) .ret) .skip)) (.ops [.mv 34 1, .mv 35 7, .bin 36 .add 35 (kI 1), .bin 37 .add 34 36, .asg 1 37]))) (.seq (.ops [.mv 39 6, .call (some 40) 63 [39,(.c (.d (.s (bs [47, 42]))))], .asg 38 40]) (.cond 38 (.seq (.ops [.mv 41 6, .sls 42 41 (some (kI 2)) none, .call (some 43) 64 [42,(.c (.d (.s (bs [42, 47]))))], .asg 8 43]) (.seq (.seq (.ops [.mv 44 8, .bin 45 .lss 44 (kI 0)]) (.cond 45 (.seq (.ops [.mv 46 1, .asg 4 46, .asg 5 (kB false)]) .ret) .skip)) (.ops [.mv 47 1, .mv 48 8, .bin 49 .add 48 (kI 4), .bin 50 .add 47 49, .asg 1 50]))) (.seq (.ops [.mv 16 1, .asg 4 16, .asg 5 (kB true)]) .ret))))))))))))
def aciSkip:AC:=(.seq (.ops [.asg 4 (kI 0), .asg 5 (kB false)]) (.seq (.block 0 aciSkip_L0) (.seq (.ops [.mv 51 1, .asg 4 51, .asg 5 (kB true)]) .ret)))
theorem triSkip:trFn Tryz.prog 37 = some (aciSkip, [.mv 0 4, .mv 0 5], 52):=by kernel_rfl
def qiSkip (r:Int × Bool):Exit → St → Prop:=retQ [.mv 0 4, .mv 0 5] fun x _ => x = (fun y => (.tup [(vI y.1),(vB y.2)])) r
def qiSkip_0 (r:Int × Bool):Exit → St → Prop:=(thenK (wkK (avc Tryz.prog (.seq (.ops [.mv 51 1, .asg 4 51, .asg 5 (.c (.d (.b true)))]) .ret) (qiSkip r))) (qiSkip r))
def qiSkip_1 (r:Int × Bool):Exit → St → Prop:=(blockK 0 (qiSkip_0 r))
def stiSkip_L0 (p0:(List UInt8)) (x1:Int):St:=⟨[(0,(vS p0)),(1,(vI x1))], []⟩


def acsDrawSqueeze:AC:=(.seq (.ops [.asg 2 (.c (.d (.s (bs []))))]) (.seq (.ops [.mv 3 0, .call (some 4) 36 [3], .call (some 5) 47 [4], .asg 2 5]) .ret))
theorem trsDrawSqueeze:trFn Tryz.prog 27 = some (acsDrawSqueeze, [.mv 0 2], 6):=by kernel_rfl
def qsDrawSqueeze (r:(List UInt8)):Exit → St → Prop:=retQ [.mv 0 2] fun x _ => x = (fun y => (vS y)) r
def acsL3Source_L0:AC:=(.loop (.seq (.seq (.ops [.mv 9 5, .mv 10 4, .bin 11 .lss 9 10]) (.cond 11 .skip (.exit 0))) (.seq (.block 1 (.ops [.mv 14 3, .mv 15 0, .bsl 16 9 1 [(.c (.d (.s (bs [])))),(.c (.d (.s (bs [32])))),(.c (.d (.s (bs [10])))),(.c (.d (.s (bs [9])))),(.c (.d (.s (bs [45, 45, 32, 120, 10])))),(.c (.d (.s (bs [47, 42, 32, 121, 32, 42, 47])))),(.c (.d (.s (bs [47, 42, 42, 47])))),(.c (.d (.s (bs [32]))))], .call (some 17) 89 [15, 16], .bin 18 .add 14 17, .mv 19 0, .call (some 20) 90 [19], .call (some 21) 50 [20], .bin 22 .add 18 21, .asg 3 22])) (.ops [.mv 12 5, .bin 13 .add 12 (kI 1), .asg 5 13]))))
def acsL3Source_J3:AC:=(.seq (.ops [.mv 66 3, .asg 2 66]) .ret)
def acsL3Source_L2:AC:=(.loop (.seq (.seq (.ops [.mv 56 3, .lns 57 56, .bin 58 .lss 57 (kI 2001)]) (.cond 58 .skip (.exit 3))) (.block 4 (.ops [.mv 59 3, .bin 60 .add 59 (.c (.d (.s (bs [32, 32, 32, 32, 32, 32, 32, 32, 32, 32, 32, 32, 32, 32, 32, 32, 32, 32, 32, 32])))), .asg 3 60]))))
def acsL3Source_J1:AC:=(.seq (.seq (.ops [.mv 54 0, .call (some 55) 60 [54,(kI 60)]]) (.cond 55 (.seq (.block 3 acsL3Source_L2) (.ops [.mv 61 3, .mv 62 0, .call (some 63) 59 [62,(kI 2)], .bin 64 .add (kI 2000) 63, .sls 65 61 none (some 64), .asg 3 65])) .skip)) acsL3Source_J3)
def acsL3Source:AC:=(.seq (.ops [.asg 2 (.c (.d (.s (bs []))))]) (.seq (.ops [.asg 3 (.c (.d (.s (bs []))))]) (.seq (.ops [.mv 7 0, .call (some 8) 59 [7,(kI 8)], .asg 4 8]) (.seq (.seq (.ops [.asg 5 (kI 0)]) (.block 0 acsL3Source_L0)) (.seq (.seq (.ops [.mv 23 0, .call (some 24) 59 [23,(kI 10)]]) (.block 2 (.seq (.ops [.bin 26 .eql 24 (kI 0), .asg 25 26]) (.cond 25 (.ops [.mv 27 3, .mv 28 0, .bsl 29 9 1 [(.c (.d (.s (bs [39])))),(.c (.d (.s (bs [34])))),(.c (.d (.s (bs [47, 42])))),(.c (.d (.s (bs [47, 42, 47])))),(.c (.d (.s (bs [45, 45])))),(.c (.d (.s (bs [124])))),(.c (.d (.s (bs [34, 34])))),(.c (.d (.s (bs [49, 50, 120])))),(.c (.d (.s (bs [48, 49])))),(.c (.d (.s (bs [33])))),(.c (.d (.s (bs [195, 169])))),(.c (.d (.s (bs [0]))))], .call (some 30) 89 [28, 29], .bin 31 .add 27 30, .asg 3 31]) (.seq (.ops [.bin 33 .eql 24 (kI 1), .asg 32 33]) (.cond 32 (.seq (.ops [.mv 34 0, .mv 35 3, .lns 36 35, .bin 37 .add 36 (kI 1), .call (some 38) 59 [34, 37], .asg 6 38]) (.dops [[], [], [0, 1], [], [3], [4], [2, 5], [], [], [7, 8], [6, 9], [10, 4, 0, 1, 2, 3, 4, 5, 6, 7, 8, 9, 10]] [.mv 39 3, .mv 40 6, .sls 41 39 none (some 40), .mv 42 0, .call (some 43) 91 [42,(kI 1)], .cbs 44 43, .bin 45 .add 41 44, .mv 46 3, .mv 47 6, .sls 48 46 (some 47) none, .bin 49 .add 45 48, .asg 3 49])) (.seq (.ops [.bin 51 .eql 24 (kI 2), .asg 50 51]) (.cond 50 (.ops [.mv 52 3, .call (some 53) 92 [52], .asg 3 53]) .skip)))))))) acsL3Source_J1)))))
theorem trsL3Source:trFn Tryz.prog 47 = some (acsL3Source, [.mv 0 2], 67):=by kernel_rfl
def qsL3Source (r:(List UInt8) × GL1Cur):Exit → St → Prop:=retQ [.mv 0 2] fun x b => x = (fun (y:(List UInt8) × GL1Cur) => (vS y.1)) r ∧ bxHas ((fun (y:(List UInt8) × GL1Cur) => [(1000000, bGL1Cur y.2)]) r) b
def qsL3Source_0 (r:(List UInt8) × GL1Cur):Exit → St → Prop:=(thenK (wkK (avc Tryz.prog (.seq (.seq (.ops [.mv 23 0, .call (some 24) 59 [23,(.c (.d (.i .i64 10)))]]) (.block 2 (.seq (.ops [.bin 26 .eql 24 (.c (.d (.i .i64 0))), .asg 25 26]) (.cond 25 (.ops [.mv 27 3, .mv 28 0, .bsl 29 9 1 [(.c (.d (.s (bs [39])))),(.c (.d (.s (bs [34])))),(.c (.d (.s (bs [47, 42])))),(.c (.d (.s (bs [47, 42, 47])))),(.c (.d (.s (bs [45, 45])))),(.c (.d (.s (bs [124])))),(.c (.d (.s (bs [34, 34])))),(.c (.d (.s (bs [49, 50, 120])))),(.c (.d (.s (bs [48, 49])))),(.c (.d (.s (bs [33])))),(.c (.d (.s (bs [195, 169])))),(.c (.d (.s (bs [0]))))], .call (some 30) 89 [28, 29], .bin 31 .add 27 30, .asg 3 31]) (.seq (.ops [.bin 33 .eql 24 (.c (.d (.i .i64 1))), .asg 32 33]) (.cond 32 (.seq (.ops [.mv 34 0, .mv 35 3, .lns 36 35, .bin 37 .add 36 (.c (.d (.i .i64 1))), .call (some 38) 59 [34, 37], .asg 6 38]) (.dops [[], [], [0, 1], [], [3], [4], [2, 5], [], [], [7, 8], [6, 9], [10, 4, 0, 1, 2, 3, 4, 5, 6, 7, 8, 9, 10]] [.mv 39 3, .mv 40 6, .sls 41 39 none (some 40), .mv 42 0, .call (some 43) 91 [42,(.c (.d (.i .i64 1)))], .cbs 44 43, .bin 45 .add 41 44, .mv 46 3, .mv 47 6, .sls 48 46 (some 47) none, .bin 49 .add 45 48, .asg 3 49])) (.seq (.ops [.bin 51 .eql 24 (.c (.d (.i .i64 2))), .asg 50 51]) (.cond 50 (.ops [.mv 52 3, .call (some 53) 92 [52], .asg 3 53]) .skip)))))))) acsL3Source_J1) (qsL3Source r))) (qsL3Source r))
def qsL3Source_1 (r:(List UInt8) × GL1Cur):Exit → St → Prop:=(blockK 0 (qsL3Source_0 r))
def qsL3Source_2 (r:(List UInt8) × GL1Cur):Exit → St → Prop:=(thenK (wkK (avc Tryz.prog acsL3Source_J3 (qsL3Source r))) (qsL3Source r))
def qsL3Source_3 (r:(List UInt8) × GL1Cur):Exit → St → Prop:=(thenK (wkK (avc Tryz.prog (.ops [.mv 61 3, .mv 62 0, .call (some 63) 59 [62,(.c (.d (.i .i64 2)))], .bin 64 .add (.c (.d (.i .i64 2000))) 63, .sls 65 61 none (some 64), .asg 3 65]) (qsL3Source_2 r))) (qsL3Source_2 r))
def qsL3Source_4 (r:(List UInt8) × GL1Cur):Exit → St → Prop:=(blockK 3 (qsL3Source_3 r))
def stsL3Source_L0 (y1:Int × GL1Cur) (x3:(List UInt8)) (x5:Int) (b1000000_0:(List Int)) (b1000000_1:Int) (b1000000_2:Int):St:=⟨[(0,(.ptr 1000000 0)),(3,(vS x3)),(4,(vI y1.1)),(5,(vI x5))], [(1000000, bGL1Cur (GL1Cur.mk b1000000_0 b1000000_1 b1000000_2))]⟩
def stsL3Source_J1 (x3_10:(List UInt8)) (b1000000_0_11:(List Int)) (b1000000_1_12:Int) (b1000000_2_13:Int):St:=⟨[(0,(.ptr 1000000 0)),(3,(vS x3_10))], [(1000000, bGL1Cur (GL1Cur.mk b1000000_0_11 b1000000_1_12 b1000000_2_13))]⟩
def stsL3Source_L2 (y22:Bool × GL1Cur) (x3_23:(List UInt8)):St:=⟨[(0,(.ptr 1000000 0)),(3,(vS x3_23))], [(1000000, bGL1Cur y22.2)]⟩
def stsL3Source_J3 (x3_24:(List UInt8)) (b1000000_0_25:(List Int)) (b1000000_1_26:Int) (b1000000_2_27:Int):St:=⟨[(3,(vS x3_24))], [(1000000, bGL1Cur (GL1Cur.mk b1000000_0_25 b1000000_1_26 b1000000_2_27))]⟩
def acsL1Once:AC:=(.seq (.ops [.asg 4 (kB false)]) (.seq (.ops [.mv 5 0, .mv 6 1, .call (some 7) 59 [5, 6], .bin 8 .eql 7 (kI 0), .asg 4 8]) .ret))
theorem trsL1Once:trFn Tryz.prog 60 = some (acsL1Once, [.mv 0 4], 9):=by kernel_rfl
def qsL1Once (r:Bool × GL1Cur):Exit → St → Prop:=retQ [.mv 0 4] fun x b => x = (fun (y:Bool × GL1Cur) => (vB y.1)) r ∧ bxHas ((fun (y:Bool × GL1Cur) => [(1000000, bGL1Cur y.2)]) r) b
def acsL1Below:AC:=(.seq (.ops [.asg 4 (kI 0)]) (.seq (.seq (.ops [.mv 9 1, .bin 10 .leq 9 (kI 0)]) (.cond 10 (.seq (.ops [.asg 4 (kI 0)]) .ret) .skip)) (.seq (.seq (.ops [.mv 11 1, .bin 12 .leq 11 (kI 256)]) (.cond 12 (.seq (.ops [.mv 13 0, .call (some 14) 107 [13], .mv 15 1, .bin 16 .rem 14 15, .asg 4 16]) .ret) .skip)) (.seq (.ops [.mv 17 0, .call (some 18) 107 [17], .asg 5 18]) (.seq (.ops [.mv 19 0, .call (some 20) 107 [19], .asg 6 20]) (.seq (.ops [.mv 21 0, .call (some 22) 107 [21], .asg 7 22]) (.seq (.ops [.mv 23 0, .call (some 24) 107 [23], .asg 8 24]) (.seq (.ops [.mv 25 5, .bin 26 .mul 25 (kI 16777216), .mv 27 6, .bin 28 .mul 27 (kI 65536), .bin 29 .add 26 28, .mv 30 7, .bin 31 .mul 30 (kI 256), .bin 32 .add 29 31, .mv 33 8, .bin 34 .add 32 33, .mv 35 1, .bin 36 .rem 34 35, .asg 4 36]) .ret))))))))
theorem trsL1Below:trFn Tryz.prog 59 = some (acsL1Below, [.mv 0 4], 37):=by kernel_rfl
def qsL1Below (r:Int × GL1Cur):Exit → St → Prop:=retQ [.mv 0 4] fun x b => x = (fun (y:Int × GL1Cur) => (vI y.1)) r ∧ bxHas ((fun (y:Int × GL1Cur) => [(1000000, bGL1Cur y.2)]) r) b
def acsL1Byte_J0:AC:=(.seq (.ops [.mv 57 3, .asg 2 57]) .ret)
def acsL1Byte:AC:=(.seq (.ops [.asg 2 (kI 0)]) (.seq (.ops [.mv 4 0, .mv 5 0, .nck 6 5, .fa 7 2 6, .ld 8 1 false 7, .bin 9 .mul 8 (kI 6364136223846793005), .bin 10 .add 9 (kI 1442695040888963407), .nck 11 4, .fa 12 2 11, .st 1 12 10]) (.seq (.dops [[], [0], [1], [2], [3], [], [5], [6], [7], [8], [4, 9], [10], [11, 0, 1, 2, 3, 4, 5, 6, 7, 8, 9, 10, 11]] [.mv 13 0, .nck 14 13, .fa 15 2 14, .ld 16 1 false 15, .bin 17 .shr 16 (.c (.d (.i .u64 33))), .mv 18 0, .nck 19 18, .fa 20 2 19, .ld 21 1 false 20, .bin 22 .shr 21 (.c (.d (.i .u64 45))), .bin 23 .xor 17 22, .bin 24 .and 23 (kI 255), .asg 3 24]) (.seq (.seq (.dops [[], [0], [1], [2], [], [4], [5], [6], [7], [3, 8]] [.mv 25 0, .nck 26 25, .fa 27 1 26, .ld 28 1 false 27, .mv 29 0, .nck 30 29, .fa 31 0 30, .ld 32 1 false 31, .len 33 32, .bin 34 .lss 28 33]) (.cond 34 (.seq (.dops [[], [], [1], [2], [3], [], [5], [6], [7], [4, 8], [9], [10], [0, 11], [12], [13, 0, 1, 2, 3, 4, 5, 6, 7, 8, 9, 10, 11, 12, 13]] [.mv 35 3, .mv 36 0, .nck 37 36, .fa 38 0 37, .ld 39 1 false 38, .mv 40 0, .nck 41 40, .fa 42 1 41, .ld 43 1 false 42, .ia 44 1 39 43, .ld 45 1 false 44, .cvi 46 .i64 45, .bin 47 .add 35 46, .bin 48 .and 47 (kI 255), .asg 3 48]) (.ops [.mv 49 0, .mv 50 0, .nck 51 50, .fa 52 1 51, .ld 53 1 false 52, .bin 54 .add 53 (kI 1), .nck 55 49, .fa 56 1 55, .st 1 56 54])) .skip)) acsL1Byte_J0))))
theorem trsL1Byte:trFn Tryz.prog 107 = some (acsL1Byte, [.mv 0 2], 58):=by kernel_rfl
def qsL1Byte (r:Int × GL1Cur):Exit → St → Prop:=retQ [.mv 0 2] fun x b => x = (fun (y:Int × GL1Cur) => (vI y.1)) r ∧ bxHas ((fun (y:Int × GL1Cur) => [(1000000, bGL1Cur y.2)]) r) b
def stsL1Byte_J0 (p0:GL1Cur) (x3:Int) (b1000000_1:Int):St:=⟨[(3,(vI x3))], [(1000000, bGL1Cur (GL1Cur.mk p0.b b1000000_1 (IntKind.wrap .i64 ((IntKind.wrap .i64 (p0.h * 6364136223846793005)) + 1442695040888963407))))]⟩
def acsL1Bytes_L0:AC:=(.loop (.seq (.seq (.ops [.mv 8 6, .mv 9 1, .bin 10 .lss 8 9]) (.cond 10 .skip (.exit 0))) (.seq (.block 1 (.ops [.mv 13 5, .mv 14 0, .call (some 15) 107 [14], .cvi 16 .u8 15, .bsl 17 5 1 [16], .app 18 5 1 1 13 17, .asg 5 18])) (.ops [.mv 11 6, .bin 12 .add 11 (kI 1), .asg 6 12]))))
def acsL1Bytes:AC:=(.seq (.ops [.asg 4 (.c (.nil 1))]) (.seq (.ops [.bsl 7 5 1 [], .asg 5 7]) (.seq (.seq (.ops [.asg 6 (kI 0)]) (.block 0 acsL1Bytes_L0)) (.seq (.ops [.mv 19 5, .asg 4 19]) .ret))))
theorem trsL1Bytes:trFn Tryz.prog 91 = some (acsL1Bytes, [.mv 0 4], 20):=by kernel_rfl
def qsL1Bytes (r:(List Int) × GL1Cur):Exit → St → Prop:=retQ [.mv 0 4] fun x b => x = (fun (y:(List Int) × GL1Cur) => (.osl 2000000 5 1 (y.1.map cU8))) r ∧ bxHas ((fun (y:(List Int) × GL1Cur) => [(1000000, bGL1Cur y.2)]) r) b
def qsL1Bytes_0 (r:(List Int) × GL1Cur):Exit → St → Prop:=(thenK (wkK (avc Tryz.prog (.seq (.ops [.mv 19 5, .asg 4 19]) .ret) (qsL1Bytes r))) (qsL1Bytes r))
def qsL1Bytes_1 (r:(List Int) × GL1Cur):Exit → St → Prop:=(blockK 0 (qsL1Bytes_0 r))
def stsL1Bytes_L0 (p1:Int) (x5:(List Int)) (x6:Int) (b1000000_0:(List Int)) (b1000000_1:Int) (b1000000_2:Int):St:=⟨[(0,(.ptr 1000000 0)),(1,(vI p1)),(5,(.osl 5 5 1 (x5.map cU8))),(6,(vI x6))], [(1000000, bGL1Cur (GL1Cur.mk b1000000_0 b1000000_1 b1000000_2))]⟩
def acsL3Token:AC:=(.seq (.ops [.alc 2 [(.d (.i .i64 0)),(.d (.s (bs []))),(.d (.i .i64 0))]]) (.seq (.seq (.ops [.mv 3 0, .call (some 4) 59 [3,(kI 6)]]) (.block 0 (.seq (.ops [.bin 6 .eql 4 (kI 0), .asg 5 6]) (.cond 5 (.seq (.ops [.call (some 7) 127 [], .mv 8 0, .call (some 9) 59 [8,(kI 28)], .bin 10 .add (kI 1) 9, .ia 11 1 7 10, .ld 12 1 false 11, .bld 13 [(.d (.i .i64 0)),(.d (.s (bs []))),(.d (.i .i64 0))] [(0, 1,(kI 1)),(1, 1, 12)], .st 3 2 13]) .ret) (.seq (.ops [.bin 15 .eql 4 (kI 1), .asg 14 15]) (.cond 14 (.seq (.ops [.mv 16 0, .call (some 17) 128 [16], .bld 18 [(.d (.i .i64 0)),(.d (.s (bs []))),(.d (.i .i64 0))] [(0, 1,(kI 2)),(1, 1, 17)], .st 3 2 18]) .ret) (.seq (.ops [.bin 20 .eql 4 (kI 2), .asg 19 20]) (.cond 19 (.seq (.ops [.mv 21 0, .call (some 22) 108 [21], .call (some 23) 130 [(kI 0), 22], .call (some 24) 129 [23], .bld 25 [(.d (.i .i64 0)),(.d (.s (bs []))),(.d (.i .i64 0))] [(0, 1,(kI 3)),(1, 1, 24)], .st 3 2 25]) .ret) (.seq (.ops [.bin 27 .eql 4 (kI 3), .asg 26 27]) (.cond 26 (.seq (.ops [.mv 28 0, .bsl 29 9 1 [(.c (.d (.s (bs [])))),(.c (.d (.s (bs [120])))),(.c (.d (.s (bs [105, 116, 39, 115])))),(.c (.d (.s (bs [39, 39])))),(.c (.d (.s (bs [116, 119, 111, 32, 119, 111, 114, 100, 115])))),(.c (.d (.s (bs [34])))),(.c (.d (.s (bs [45, 45])))),(.c (.d (.s (bs [0, 255]))))], .call (some 30) 89 [28, 29], .bld 31 [(.d (.i .i64 0)),(.d (.s (bs []))),(.d (.i .i64 0))] [(0, 1,(kI 4)),(1, 1, 30)], .st 3 2 31]) .ret) .skip)))))))))) (.seq (.ops [.mv 32 0, .call (some 33) 131 [32], .bld 34 [(.d (.i .i64 0)),(.d (.s (bs []))),(.d (.i .i64 0))] [(0, 1,(kI 5)),(1, 1, 33)], .st 3 2 34]) .ret)))
theorem trsL3Token:trFn Tryz.prog 90 = some (acsL3Token, [.ld 0 3 true 2], 35):=by kernel_rfl
def qsL3Token (r:GToken × GL1Cur):Exit → St → Prop:=retQ [.ld 0 3 true 2] fun x b => x = (fun (y:GToken × GL1Cur) => (vGToken y.1)) r ∧ bxHas ((fun (y:GToken × GL1Cur) => [(1000000, bGL1Cur y.2)]) r) b
def acsL3Sign:AC:=(.seq (.ops [.asg 2 (.c (.d (.s (bs []))))]) (.seq (.ops [.mv 3 0, .bsl 4 9 1 [(.c (.d (.s (bs [40])))),(.c (.d (.s (bs [41])))),(.c (.d (.s (bs [44])))),(.c (.d (.s (bs [46])))),(.c (.d (.s (bs [42])))),(.c (.d (.s (bs [43])))),(.c (.d (.s (bs [45])))),(.c (.d (.s (bs [47])))),(.c (.d (.s (bs [37])))),(.c (.d (.s (bs [61])))),(.c (.d (.s (bs [60, 62])))),(.c (.d (.s (bs [60])))),(.c (.d (.s (bs [60, 61])))),(.c (.d (.s (bs [62])))),(.c (.d (.s (bs [62, 61])))),(.c (.d (.s (bs [124, 124]))))], .call (some 5) 89 [3, 4], .asg 2 5]) .ret))
theorem trsL3Sign:trFn Tryz.prog 131 = some (acsL3Sign, [.mv 0 2], 6):=by kernel_rfl
def qsL3Sign (r:(List UInt8) × GL1Cur):Exit → St → Prop:=retQ [.mv 0 2] fun x b => x = (fun (y:(List UInt8) × GL1Cur) => (vS y.1)) r ∧ bxHas ((fun (y:(List UInt8) × GL1Cur) => [(1000000, bGL1Cur y.2)]) r) b
def acsL1Pick:AC:=(.seq (.ops [.asg 4 (.c (.d (.s (bs []))))]) (.seq (.ops [.mv 5 1, .mv 6 0, .mv 7 1, .len 8 7, .call (some 9) 59 [6, 8], .ia 10 1 5 9, .ld 11 1 false 10, .asg 4 11]) .ret))
theorem trsL1Pick:trFn Tryz.prog 89 = some (acsL1Pick, [.mv 0 4], 12):=by kernel_rfl
def qsL1Pick (r:(List UInt8) × GL1Cur):Exit → St → Prop:=retQ [.mv 0 4] fun x b => x = (fun (y:(List UInt8) × GL1Cur) => (vS y.1)) r ∧ bxHas ((fun (y:(List UInt8) × GL1Cur) => [(1000000, bGL1Cur y.2)]) r) b
def acsL2Name:AC:=(.seq (.ops [.asg 2 (.c (.d (.s (bs []))))]) (.seq (.seq (.ops [.mv 3 0, .call (some 4) 60 [3,(kI 6)]]) (.cond 4 (.seq (.ops [.mv 5 0, .bsl 6 9 1 [(.c (.d (.s (bs [97, 32, 98])))),(.c (.d (.s (bs [102, 114, 111, 109])))),(.c (.d (.s (bs [83, 101, 108, 101, 99, 116])))),(.c (.d (.s (bs [49, 120])))),(.c (.d (.s (bs [113, 34, 113])))),(.c (.d (.s (bs [0])))),(.c (.d (.s (bs [34])))),(.c (.d (.s (bs [105, 116, 39, 115])))),(.c (.d (.s (bs [120, 46, 121])))),(.c (.d (.s (bs [45]))))], .call (some 7) 89 [5, 6], .asg 2 7]) .ret) .skip)) (.seq (.ops [.mv 8 0, .bsl 9 9 1 [(.c (.d (.s (bs [97])))),(.c (.d (.s (bs [98])))),(.c (.d (.s (bs [99])))),(.c (.d (.s (bs [116])))),(.c (.d (.s (bs [117])))),(.c (.d (.s (bs [118])))),(.c (.d (.s (bs [105, 100])))),(.c (.d (.s (bs [110, 97, 109, 101])))),(.c (.d (.s (bs [65])))),(.c (.d (.s (bs [95, 120, 49]))))], .call (some 10) 89 [8, 9], .asg 2 10]) .ret)))
theorem trsL2Name:trFn Tryz.prog 128 = some (acsL2Name, [.mv 0 2], 11):=by kernel_rfl
def qsL2Name (r:(List UInt8) × GL1Cur):Exit → St → Prop:=retQ [.mv 0 2] fun x b => x = (fun (y:(List UInt8) × GL1Cur) => (vS y.1)) r ∧ bxHas ((fun (y:(List UInt8) × GL1Cur) => [(1000000, bGL1Cur y.2)]) r) b
def acsL1Max:AC:=(.seq (.ops [.asg 4 (kI 0)]) (.seq (.seq (.ops [.mv 5 0, .mv 6 1, .bin 7 .gtr 5 6]) (.cond 7 (.seq (.ops [.mv 8 0, .asg 4 8]) .ret) .skip)) (.seq (.ops [.mv 9 1, .asg 4 9]) .ret)))
theorem trsL1Max:trFn Tryz.prog 130 = some (acsL1Max, [.mv 0 4], 10):=by kernel_rfl
def qsL1Max (r:Int):Exit → St → Prop:=retQ [.mv 0 4] fun x _ => x = (fun y => (vI y)) r
def acsL1Whole:AC:=(.seq (.ops [.asg 2 (kI 0)]) (.seq (.seq (.ops [.mv 3 0, .call (some 4) 59 [3,(kI 3)]]) (.block 0 (.seq (.ops [.bin 6 .eql 4 (kI 0), .asg 5 6]) (.cond 5 (.seq (.ops [.mv 7 0, .bsl 8 3 1 [(kI 0),(kI 1),(kI (-1)),(kI 63),(kI 64),(kI (-64)),(kI (-65)),(kI 127),(kI 128),(kI 16383),(kI 16384),(kI 9223372036854775807),(kI (-9223372036854775808)),(kI 4611686018427387904)], .call (some 9) 139 [7, 8], .asg 2 9]) .ret) (.seq (.ops [.bin 11 .eql 4 (kI 1), .asg 10 11]) (.cond 10 (.seq (.ops [.mv 12 0, .call (some 13) 59 [12,(kI 1000000)], .bin 14 .sub 13 (kI 500000), .asg 2 14]) .ret) .skip)))))) (.seq (.ops [.mv 15 0, .call (some 16) 59 [15,(kI 20)], .asg 2 16]) .ret)))
theorem trsL1Whole:trFn Tryz.prog 108 = some (acsL1Whole, [.mv 0 2], 17):=by kernel_rfl
def qsL1Whole (r:Int × GL1Cur):Exit → St → Prop:=retQ [.mv 0 2] fun x b => x = (fun (y:Int × GL1Cur) => (vI y.1)) r ∧ bxHas ((fun (y:Int × GL1Cur) => [(1000000, bGL1Cur y.2)]) r) b
def acsL1PickInt:AC:=(.seq (.ops [.asg 4 (kI 0)]) (.seq (.ops [.mv 5 1, .mv 6 0, .mv 7 1, .len 8 7, .call (some 9) 59 [6, 8], .ia 10 1 5 9, .ld 11 1 false 10, .asg 4 11]) .ret))
theorem trsL1PickInt:trFn Tryz.prog 139 = some (acsL1PickInt, [.mv 0 4], 12):=by kernel_rfl
def qsL1PickInt (r:Int × GL1Cur):Exit → St → Prop:=retQ [.mv 0 4] fun x b => x = (fun (y:Int × GL1Cur) => (vI y.1)) r ∧ bxHas ((fun (y:Int × GL1Cur) => [(1000000, bGL1Cur y.2)]) r) b
theorem koGL1Cur (x:GL1Cur) (h:∀ d ∈ cGL1Cur x, OkD d):okGL1Cur x:=⟨ko_l _ (fun y hy => ko_u8 _ hy) (ko_sub h 0 1), ko_i _ (ko_sub h 1 1), ko_i _ (ko_sub h 2 1)⟩
theorem koGToken (x:GToken) (h:∀ d ∈ cGToken x, OkD d):okGToken x:=⟨ko_i _ (ko_sub h 0 1), ko_s _ (ko_sub h 1 1), ko_i _ (ko_sub h 2 1)⟩
theorem de5 {l:List D} (h:WtC Tryz.prog 5 l):∃ x:Int, l = cU8 x:=(wt_i h (k:=.u8) kr)
theorem de29 {l:List D} (h:WtC Tryz.prog 29 l):∃ x:(List Int), l = (cSl 1 cU8) x:=(wt_sl h (e:=5) (n:=1) (c:=cU8) kr kr fun x hx => de5 hx)
theorem OK_iIsDigit (p0:Int):FOk Tryz.prog 66 [(.d (.i .u8 p0))] (fun y => (vB y)) (iIsDigit p0):=by
 intro r h
 rw [iIsDigit] at h
 refine aof triIsDigit ?_
 show avc Tryz.prog aciIsDigit (qiIsDigit _) ⟨[(0,(.d (.i .u8 p0)))], []⟩
 delta aciIsDigit
 refine so ?_
 let a0:St:=⟨[(2,(vB false)),(0,(.d (.i .u8 p0)))], []⟩
 refine st 1 a0 (nx (so ?_))
 let a1:St:=a0.p [(5,(vB (decide (48 ≤ p0)))),(4,(vB (decide (48 ≤ p0)))),(3,(.d (.i .u8 p0)))]
 refine st 3 a1 (gp true (decide (48 ≤ p0)) (.d (.i .u8 p0)) (fun hc => vl) (gp true (decide (48 ≤ p0)) (vB (decide (p0 ≤ 57))) (fun hc => vg hc) (vs (fun (y:Bool) => (vB y)) h (fun y hy => vop_pickV hy (p:=(true && ((decide (48 ≤ p0)) == true))) (q:=true) kr kr kr kr (fun hb => gc_t rfl hb) (fun _ => rfl)) fun y1 h => ?_)))
 let a2:St:=a1.p [(2,(vB y1)),(8,(vB y1)),(7,(.ite (true && ((decide (48 ≤ p0)) == true)) (vB (decide (p0 ≤ 57))))),(6,(.ite (true && ((decide (48 ≤ p0)) == true)) (.d (.i .u8 p0))))]
 refine st 1 a2 (nx (ri ?_))
 injection h with h; subst h
 exact r1 (v:=(vB y1))
theorem OK_iIsStart (p0:Int):FOk Tryz.prog 112 [(.d (.i .u8 p0))] (fun y => (vB y)) (iIsStart p0):=by
 intro r h
 rw [iIsStart] at h
 refine aof triIsStart ?_
 show avc Tryz.prog aciIsStart (qiIsStart _) ⟨[(0,(.d (.i .u8 p0)))], []⟩
 delta aciIsStart
 refine so ?_
 let a0:St:=⟨[(2,(vB false)),(0,(.d (.i .u8 p0)))], []⟩
 refine st 1 a0 (nx (so ?_))
 let a1:St:=a0.p [(5,(vB (decide (97 ≤ p0)))),(4,(vB (decide (97 ≤ p0)))),(3,(.d (.i .u8 p0)))]
 refine st 3 a1 (gp true (decide (97 ≤ p0)) (.d (.i .u8 p0)) (fun hc => vl) (gp true (decide (97 ≤ p0)) (vB (decide (p0 ≤ 122))) (fun hc => vg hc) (vs (fun (y:Bool) => (vB y)) h (fun y hy => vop_pickV hy (p:=(true && ((decide (97 ≤ p0)) == true))) (q:=true) kr kr kr kr (fun hb => gc_t rfl hb) (fun _ => rfl)) fun y1 h => ?_)))
 let a2:St:=a1.p [(9,(vB y1)),(8,(vB y1)),(7,(.ite (true && ((decide (97 ≤ p0)) == true)) (vB (decide (p0 ≤ 122))))),(6,(.ite (true && ((decide (97 ≤ p0)) == true)) (.d (.i .u8 p0))))]
 refine st 1 a2 (gp true y1 (.d (.i .u8 p0)) (fun hc => vl) (gp true y1 (vB (decide (65 ≤ p0))) (fun hc => vg hc) (gp true y1 (vB (decide (65 ≤ p0))) (fun hc => vg hc) (gp (true && (y1 == false)) (decide (65 ≤ p0)) (.d (.i .u8 p0)) (fun hc => vl) (gp (true && (y1 == false)) (decide (65 ≤ p0)) (vB (decide (p0 ≤ 90))) (fun hc => vg hc) ?_)))))
 refine gv true y1 (fun (y:Bool) => (vB y)) h (fun y hy hc => vop_pickV hy (p:=((true && (y1 == false)) && ((decide (65 ≤ p0)) == true))) (q:=true) (Eq.trans (b:=([(true && (y1 == false))]:List Bool).all id) kr (all_c hc rfl)) kr kr kr (fun hb => gc_t hc hb) (fun _ => rfl)) fun y2 h => ?_
 refine vs (fun (y:Bool) => (vB y)) h (fun y hy => vop_pickV hy (p:=true) (q:=(true && (y1 == false))) kr kr kr kr (fun _ => rfl) (fun hb => gc_f rfl hb)) fun y3 h => ?_
 let a3:St:=a2.p [(17,(vB y3)),(16,(vB y3)),(15,(.ite (gF y1) (vB y2))),(14,(.ite ((gF y1) && ((decide (65 ≤ p0)) == true)) (vB (decide (p0 ≤ 90))))),(13,(.ite ((gF y1) && ((decide (65 ≤ p0)) == true)) (.d (.i .u8 p0)))),(12,(.ite (gF y1) (vB (decide (65 ≤ p0))))),(11,(.ite (gF y1) (vB (decide (65 ≤ p0))))),(10,(.ite (gF y1) (.d (.i .u8 p0))))]
 refine st 1 a3 (gp true y3 (.d (.i .u8 p0)) (fun hc => vl) (gp true y3 (vB (decide (p0 = 95))) (fun hc => vg hc) (vs (fun (y:Bool) => (vB y)) h (fun y hy => vop_pickV hy (p:=true) (q:=(true && (y3 == false))) kr kr kr kr (fun _ => rfl) (fun hb => gc_f rfl hb)) fun y4 h => ?_)))
 let a4:St:=a3.p [(2,(vB y4)),(20,(vB y4)),(19,(.ite (gF y3) (vB (decide (p0 = 95))))),(18,(.ite (gF y3) (.d (.i .u8 p0))))]
 refine st 1 a4 (nx (ri ?_))
 injection h with h; subst h
 exact r1 (v:=(vB y4))
theorem OK_iIsPart (p0:Int):FOk Tryz.prog 65 [(.d (.i .u8 p0))] (fun y => (vB y)) (iIsPart p0):=by
 intro r h
 rw [iIsPart] at h
 refine aof triIsPart ?_
 show avc Tryz.prog aciIsPart (qiIsPart _) ⟨[(0,(.d (.i .u8 p0)))], []⟩
 delta aciIsPart
 refine so ?_
 let a0:St:=⟨[(2,(vB false)),(0,(.d (.i .u8 p0)))], []⟩
 refine st 1 a0 (nx (so ?_))
 let a1:St:=a0.p [(3,(.d (.i .u8 p0)))]
 refine st 1 a1 (cs h (OK_iIsStart p0) fun y1 h => ?_)
 let a2:St:=a1.p [(5,(vB y1)),(4,(vB y1))]
 refine st 1 a2 (gp true y1 (.d (.i .u8 p0)) (fun hc => vl) (gcall_step (p:=true) (b:=y1) (m:=iIsDigit p0) (dflt:=default) (args:=[(.d (.i .u8 p0))]) (v':=(fun y => (vB y))) h kr (OK_iIsDigit p0) (fun hc => by kernel_rfl) kr (fun _ => rfl) (fun hc => (Eq.trans (b:=([(true && (y1 == false))]:List Bool).all id) kr (all_c hc rfl))) ?_))
 clear h; intro y2 h
 refine vs (fun (y:Bool) => (vB y)) h (fun y hy => vop_pickV hy (p:=true) (q:=(true && (y1 == false))) kr kr kr kr (fun _ => rfl) (fun hb => gc_f rfl hb)) fun y3 h => ?_
 let a3:St:=a2.p [(2,(vB y3)),(8,(vB y3)),(7,(.ite (gF y1) (vB y2))),(6,(.ite (gF y1) (.d (.i .u8 p0))))]
 refine st 1 a3 (nx (ri ?_))
 injection h with h; subst h
 exact r1 (v:=(vB y3))
theorem OKs_iReadQuoted_J1 (p0:(List UInt8)) (y1:Int):(∀ (x8:(List Int)) (x9_6:Int) (r:(List UInt8) × Int × Bool), iReadQuoted_J1 p0 y1 x8 x9_6 = some r → avc Tryz.prog aciReadQuoted_J1 (qiReadQuoted_4 r) (stiReadQuoted_J1 p0 y1 x8 x9_6)) ∧ (∀ (x8:(List Int)) (x9:Int) (r:(List UInt8) × Int × Bool), iReadQuoted_L0 p0 y1 x8 x9 = some r → avc Tryz.prog aciReadQuoted_L0 (qiReadQuoted_1 r) (stiReadQuoted_L0 p0 y1 x8 x9)):=by
 refine iReadQuoted_J1.mutual_partial_correctness p0 y1 (fun x8 x9_6 r => avc Tryz.prog aciReadQuoted_J1 (qiReadQuoted_4 r) (stiReadQuoted_J1 p0 y1 x8 x9_6)) (fun x8 x9 r => avc Tryz.prog aciReadQuoted_L0 (qiReadQuoted_1 r) (stiReadQuoted_L0 p0 y1 x8 x9)) ?_ ?_
 · intro F_iReadQuoted_L0 OK_iReadQuoted_L0 x8 x9_6 r h
   delta aciReadQuoted_J1
   refine oi ?_
   let a13:St:=(stiReadQuoted_J1 p0 y1 x8 x9_6).p [(48,(vI x9_6)),(47,(vS p0)),(46,(.osl 8 5 1 (x8.map cU8)))]
   refine st 3 a13 (vs (fun (y:Int) => (.d (.i .u8 y))) h (fun y hy => vop_ix (b:=p0) (k:=.i64) hy kr kr kr) fun y7 h => (bsl_step (l:=([y7]:List Int)) (f:=cU8) (g:=cU8) kr (fun _ => rfl) kr ?_))
   refine app_step (t:=8) (l:=x8) (m:=([y7]:List Int)) (f:=cU8) (S':=fun y => ⟨[(51,(.osl 51 5 1 (y.map cU8))),(50,(.osl 50 5 1 (([y7]:List Int).map cU8))),(49,(.d (.i .u8 y7))),(48,(vI x9_6)),(47,(vS p0)),(46,(.d (.sl 1 (x8.map cU8)))),(0,(vS p0)),(7,(.d (.i .u8 y1))),(8,(.d (.sl 1 (x8.map cU8)))),(9,(vI x9_6))], []⟩) h kr kr kr kr (fun y => by kernel_rfl) ?_
   clear h; intro y8 h
   let a14:St:=⟨[(8,(.osl 8 5 1 (y8.map cU8))),(51,(.d (.sl 1 (y8.map cU8)))),(50,(.osl 50 5 1 (([y7]:List Int).map cU8))),(49,(.d (.i .u8 y7))),(48,(vI x9_6)),(47,(vS p0)),(46,(.d (.sl 1 (x8.map cU8)))),(0,(vS p0)),(7,(.d (.i .u8 y1))),(8,(.d (.sl 1 (x8.map cU8)))),(9,(vI x9_6))], []⟩
   refine st 1 a14 (ni (bn (xi (oi ?_))))
   let a15:St:=a14.p [(9,(vI (IntKind.wrap .i64 (x9_6 + 1)))),(21,(vI (IntKind.wrap .i64 (x9_6 + 1)))),(20,(vI x9_6))]
   exact st 3 a15 (ni (loop_back (s':=stiReadQuoted_L0 p0 y1 y8 (IntKind.wrap .i64 (x9_6 + 1))) (wr [(8, .old 8)] (es (es (eo 8 (es er_nil)))) br_nil) (OK_iReadQuoted_L0 y8 (IntKind.wrap .i64 (x9_6 + 1)) _ h)))
 · intro F_iReadQuoted_J1 OK_iReadQuoted_J1 x8 x9 r h
   delta aciReadQuoted_L0
   refine loop_unroll (si (so ?_))
   let a5:St:=(stiReadQuoted_L0 p0 y1 x8 x9).p [(19,(vB (decide (x9 < (ln p0))))),(18,(vI (ln p0))),(17,(vS p0)),(16,(vI x9))]
   refine st 4 a5 (nx ?_)
   refine cd h (fun h => ?_) fun h => ?_
   refine ki (xi (si (bi (si (so ?_)))))
   let a6:St:=a5.p [(23,(vI x9)),(22,(vS p0))]
   refine st 2 a6 (vs (fun (y:Int) => (.d (.i .u8 y))) h (fun y hy => vop_ix (b:=p0) (k:=.i64) hy kr kr kr) fun y2 h => ?_)
   let a7:St:=a6.p [(26,(vB (decide (y2 = y1)))),(25,(.d (.i .u8 y1))),(24,(.d (.i .u8 y2)))]
   refine st 2 a7 (nx ?_)
   refine cd h (fun h => ?_) fun h => ?_
   refine si (so ?_)
   let a8:St:=a7.p [(32,(vB (decide ((IntKind.wrap .i64 (x9 + 1)) = (ln p0))))),(31,(vB (decide ((IntKind.wrap .i64 (x9 + 1)) = (ln p0))))),(30,(vI (ln p0))),(29,(vS p0)),(28,(vI (IntKind.wrap .i64 (x9 + 1)))),(27,(vI x9))]
   refine st 6 a8 (gp true (decide ((IntKind.wrap .i64 (x9 + 1)) = (ln p0))) (vS p0) (fun hc => vl) (gp true (decide ((IntKind.wrap .i64 (x9 + 1)) = (ln p0))) (vI x9) (fun hc => vl) (gp true (decide ((IntKind.wrap .i64 (x9 + 1)) = (ln p0))) (vI (IntKind.wrap .i64 (x9 + 1))) (fun hc => vg hc) ?_)))
   refine gv true (decide ((IntKind.wrap .i64 (x9 + 1)) = (ln p0))) (fun (y:Int) => (.d (.i .u8 y))) h (fun y hy hc => vop_ix (b:=p0) (k:=.i64) hy (Eq.trans (b:=([(true && ((decide ((IntKind.wrap .i64 (x9 + 1)) = (ln p0))) == false)),(true && ((decide ((IntKind.wrap .i64 (x9 + 1)) = (ln p0))) == false))]:List Bool).all id) kr (all_c hc (all_c hc rfl))) kr kr) fun y3 h => ?_
   refine gp true (decide ((IntKind.wrap .i64 (x9 + 1)) = (ln p0))) (.d (.i .u8 y1)) (fun hc => vl) ?_
   refine gp true (decide ((IntKind.wrap .i64 (x9 + 1)) = (ln p0))) (vB (!decide (y3 = y1))) (fun hc => vop_val1 (Eq.trans (b:=([(true && ((decide ((IntKind.wrap .i64 (x9 + 1)) = (ln p0))) == false)),(true && ((decide ((IntKind.wrap .i64 (x9 + 1)) = (ln p0))) == false))]:List Bool).all id) kr (all_c hc (all_c hc rfl))) kr) ?_
   refine vs (fun (y:Bool) => (vB y)) h (fun y hy => vop_pickV hy (p:=true) (q:=(true && ((decide ((IntKind.wrap .i64 (x9 + 1)) = (ln p0))) == false))) kr kr kr kr (fun _ => rfl) (fun hb => gc_f rfl hb)) fun y4 h => (nx ?_)
   refine cd h (fun h => ?_) fun h => ?_
   refine so ?_
   let a9:St:=a8.p [(40,(.osl 8 5 1 (x8.map cU8))),(39,(vB y4)),(38,(.ite (true && ((decide ((IntKind.wrap .i64 (x9 + 1)) = (ln p0))) == false)) (vB (!decide (y3 = y1))))),(37,(.ite (true && ((decide ((IntKind.wrap .i64 (x9 + 1)) = (ln p0))) == false)) (.d (.i .u8 y1)))),(36,(.ite (true && ((decide ((IntKind.wrap .i64 (x9 + 1)) = (ln p0))) == false)) (.d (.i .u8 y3)))),(35,(.ite (true && ((decide ((IntKind.wrap .i64 (x9 + 1)) = (ln p0))) == false)) (vI (IntKind.wrap .i64 (x9 + 1))))),(34,(.ite (true && ((decide ((IntKind.wrap .i64 (x9 + 1)) = (ln p0))) == false)) (vI x9))),(33,(.ite (true && ((decide ((IntKind.wrap .i64 (x9 + 1)) = (ln p0))) == false)) (vS p0)))]
   refine st 1 a9 (vs (fun (y:(List UInt8)) => (vS y)) h (fun y hy => vop_cbs (l:=x8) hy kr kr) fun y5 h => ?_)
   let a10:St:=a9.p [(6,(vB true)),(5,(vI (IntKind.wrap .i64 (x9 + 1)))),(4,(vS y5)),(43,(vI (IntKind.wrap .i64 (x9 + 1)))),(42,(vI x9)),(41,(vS y5))]
   refine st 5 a10 (nx (ri (tr (tr (br (tr (tr (br (tr ?_)))))))))
   injection h with h; subst h
   exact retn_step (vs:=[(vS y5),(vI (IntKind.wrap .i64 (x9 + 1))),(vB true)]) kr kr
   refine ki (xi (oi ?_))
   let a11:St:=a8.p [(9,(vI (IntKind.wrap .i64 (x9 + 1)))),(45,(vI (IntKind.wrap .i64 (x9 + 1)))),(44,(vI x9)),(39,(vB y4)),(38,(.ite (true && ((decide ((IntKind.wrap .i64 (x9 + 1)) = (ln p0))) == false)) (vB (!decide (y3 = y1))))),(37,(.ite (true && ((decide ((IntKind.wrap .i64 (x9 + 1)) = (ln p0))) == false)) (.d (.i .u8 y1)))),(36,(.ite (true && ((decide ((IntKind.wrap .i64 (x9 + 1)) = (ln p0))) == false)) (.d (.i .u8 y3)))),(35,(.ite (true && ((decide ((IntKind.wrap .i64 (x9 + 1)) = (ln p0))) == false)) (vI (IntKind.wrap .i64 (x9 + 1))))),(34,(.ite (true && ((decide ((IntKind.wrap .i64 (x9 + 1)) = (ln p0))) == false)) (vI x9))),(33,(.ite (true && ((decide ((IntKind.wrap .i64 (x9 + 1)) = (ln p0))) == false)) (vS p0)))]
   exact st 3 a11 (ni (next_step (s':=stiReadQuoted_J1 p0 y1 x8 (IntKind.wrap .i64 (x9 + 1))) (wr [(8, .old 8)] (es (es (eo 8 (es er_nil)))) br_nil) (OK_iReadQuoted_J1 x8 (IntKind.wrap .i64 (x9 + 1)) _ h)))
   exact ki (next_step (s':=stiReadQuoted_J1 p0 y1 x8 x9) (wr [(8, .old 8)] (es (es (eo 8 (es er_nil)))) br_nil) (OK_iReadQuoted_J1 x8 x9 _ h))
   refine ei (te (te (bh (xi (so ?_)))))
   let a12:St:=a5.p [(6,(vB false)),(5,(vI 0)),(4,(vS []))]
   refine st 3 a12 (nx (ri ?_))
   injection h with h; subst h
   exact retn_step (vs:=[(vS []),(vI 0),(vB false)]) kr kr
theorem OK_iReadQuoted_J1 (p0:(List UInt8)) (y1:Int) (x8:(List Int)) (x9_6:Int) (r:(List UInt8) × Int × Bool) (h:iReadQuoted_J1 p0 y1 x8 x9_6 = some r):avc Tryz.prog aciReadQuoted_J1 (qiReadQuoted_4 r) (stiReadQuoted_J1 p0 y1 x8 x9_6):=(OKs_iReadQuoted_J1 p0 y1).1 x8 x9_6 r h
theorem OK_iReadQuoted_L0 (p0:(List UInt8)) (y1:Int) (x8:(List Int)) (x9:Int) (r:(List UInt8) × Int × Bool) (h:iReadQuoted_L0 p0 y1 x8 x9 = some r):avc Tryz.prog aciReadQuoted_L0 (qiReadQuoted_1 r) (stiReadQuoted_L0 p0 y1 x8 x9):=(OKs_iReadQuoted_J1 p0 y1).2 x8 x9 r h
theorem OK_iReadQuoted (p0:(List UInt8)) (p1:Int):FOk Tryz.prog 69 [(vS p0),(vI p1)] (fun y => (.tup [(vS y.1),(vI y.2.1),(vB y.2.2)])) (iReadQuoted p0 p1):=by
 intro r h
 rw [iReadQuoted] at h
 refine aof triReadQuoted ?_
 show avc Tryz.prog aciReadQuoted (qiReadQuoted _) ⟨[(0,(vS p0)),(1,(vI p1))], []⟩
 delta aciReadQuoted
 refine so ?_
 let a0:St:=⟨[(6,(vB false)),(5,(vI 0)),(4,(vS [])),(0,(vS p0)),(1,(vI p1))], []⟩
 refine st 3 a0 (nx (so ?_))
 let a1:St:=a0.p [(11,(vI p1)),(10,(vS p0))]
 refine st 2 a1 (vs (fun (y:Int) => (.d (.i .u8 y))) h (fun y hy => vop_ix (b:=p0) (k:=.i64) hy kr kr kr) fun y1 h => ?_)
 let a2:St:=a1.p [(7,(.d (.i .u8 y1))),(12,(.d (.i .u8 y1)))]
 refine st 1 a2 (nx (so (bsl_step (l:=([]:List Int)) (f:=cU8) (g:=cU8) kr (fun _ => rfl) kr ?_)))
 let a3:St:=a2.p [(8,(.osl 8 5 1 (([]:List Int).map cU8))),(13,(.d (.sl 1 (([]:List Int).map cU8))))]
 refine st 1 a3 (nx (si (so ?_)))
 let a4:St:=a3.p [(9,(vI (IntKind.wrap .i64 (p1 + 1)))),(15,(vI (IntKind.wrap .i64 (p1 + 1)))),(14,(vI p1))]
 exact st 3 a4 (nx (bi (loop_go (s':=stiReadQuoted_L0 p0 y1 ([]:List Int) (IntKind.wrap .i64 (p1 + 1))) (wr [(8, .old 8)] (es (es (eo 8 (es er_nil)))) br_nil) (OK_iReadQuoted_L0 p0 y1 ([]:List Int) (IntKind.wrap .i64 (p1 + 1)) _ h))))
theorem OK_iFold_J2 (x3:(List Int)) (r:(List UInt8)) (h:iFold_J2 x3 = some r):avc Tryz.prog aciFold_J2 (qiFold r) (stiFold_J2 x3):=by
 rw [iFold_J2] at h
 delta aciFold_J2
 refine so ?_
 let a11:St:=(stiFold_J2 x3).p [(28,(.d (.sl 1 (x3.map cU8))))]
 refine st 1 a11 (vs (fun (y:(List UInt8)) => (vS y)) h (fun y hy => vop_cbs (l:=x3) hy kr kr) fun y3 h => ?_)
 let a12:St:=a11.p [(2,(vS y3)),(29,(vS y3))]
 refine st 1 a12 (nx (ri ?_))
 injection h with h; subst h
 exact r1 (v:=(vS y3))
theorem OKs_iFold_J1 (p0:(List UInt8)):(∀ (x10:Int) (b60050000_0:(List Int)) (r:(List UInt8)), iFold_J1 p0 x10 b60050000_0 = some r → avc Tryz.prog aciFold_J1 (qiFold_2 r) (stiFold_J1 p0 x10 b60050000_0)) ∧ (∀ (x10:Int) (b60015000_0:(List Int)) (r:(List UInt8)), iFold_L0 p0 x10 b60015000_0 = some r → avc Tryz.prog aciFold_L0 (qiFold_1 r) (stiFold_L0 p0 x10 b60015000_0)):=by
 refine iFold_J1.mutual_partial_correctness p0 (fun x10 b60050000_0 r => avc Tryz.prog aciFold_J1 (qiFold_2 r) (stiFold_J1 p0 x10 b60050000_0)) (fun x10 b60015000_0 r => avc Tryz.prog aciFold_L0 (qiFold_1 r) (stiFold_L0 p0 x10 b60015000_0)) ?_ ?_
 · intro F_iFold_L0 OK_iFold_L0 x10 b60050000_0 r h
   delta aciFold_J1
   refine oi ?_
   let a10:St:=(stiFold_J1 p0 x10 b60050000_0).p [(10,(vI (IntKind.wrap .i64 (x10 + 1)))),(27,(vI (IntKind.wrap .i64 (x10 + 1))))]
   exact st 2 a10 (ni (loop_back (s':=stiFold_L0 p0 (IntKind.wrap .i64 (x10 + 1)) b60050000_0) (tw [.rn [(60050000, 60015000)]] (wr [] (es (es (es (es er_nil)))) (bs_ br_nil))) (OK_iFold_L0 (IntKind.wrap .i64 (x10 + 1)) b60050000_0 _ h)))
 · intro F_iFold_J1 OK_iFold_J1 x10 b60015000_0 r h
   delta aciFold_L0
   refine loop_unroll (so ?_)
   let a5:St:=(stiFold_L0 p0 x10 b60015000_0).p [(11,(vB (decide (x10 < ((toBytes p0).length:Int)))))]
   refine st 1 a5 (nx (si ?_))
   refine cd h (fun h => ?_) fun h => ?_
   refine ki (xi (si (bi (so ?_))))
   let a6:St:=a5.p [(12,(vI x10))]
   refine st 1 a6 (iat_step (n:=60015000) (k:=.i64) (i:=x10) (l:=b60015000_0) (f:=cU8) (g:=cU8) [] (S':=fun y => ⟨(13,(.trp 60015000 1 (x10).toNat 0)) :: a6.env, [(60015000, [(.tro 1 (x10).toNat (b60015000_0.map cU8)),(.d (.i .u8 y))])]⟩) h kr kr kr (fun _ => rfl) kr (fun y => by kernel_rfl) ?_)
   clear h; intro y1 hiy1 h
   refine ps (.d (.i .u8 y1)) (vop_ldT (n:=60015000) (sz:=1) (i:=(x10).toNat) (off:=0) (l:=b60015000_0.map cU8) (c:=[(.d (.i .u8 y1))]) kr kr kr) ?_
   let a7:St:=⟨(5,(.d (.i .u8 y1))) :: (4,(vI x10)) :: (14,(.d (.i .u8 y1))) :: (13,(.trp 60015000 1 (x10).toNat 0)) :: a6.env, [(60015000, [(.tro 1 (x10).toNat (b60015000_0.map cU8)),(.d (.i .u8 y1))])]⟩
   refine st 2 a7 (nx (so ?_))
   let a8:St:=a7.p [(17,(vB (decide (97 ≤ y1)))),(16,(vB (decide (97 ≤ y1)))),(15,(.d (.i .u8 y1)))]
   refine st 3 a8 (gp true (decide (97 ≤ y1)) (.d (.i .u8 y1)) (fun hc => vl) (gp true (decide (97 ≤ y1)) (vB (decide (y1 ≤ 122))) (fun hc => vg hc) (vs (fun (y:Bool) => (vB y)) h (fun y hy => vop_pickV hy (p:=(true && ((decide (97 ≤ y1)) == true))) (q:=true) kr kr kr kr (fun hb => gc_t rfl hb) (fun _ => rfl)) fun y2 h => (nx ?_))))
   refine cd h (fun h => ?_) fun h => ?_
   refine oi ?_
   let a9:St:=a8.p [(25,(.d (.i .u8 (IntKind.wrap .u8 ((IntKind.wrap .u8 (y1 - 97)) + 65))))),(24,(.d (.i .u8 (IntKind.wrap .u8 (y1 - 97))))),(23,(.d (.i .u8 y1))),(22,(vI x10)),(21,(.tre 60015000)),(20,(vB y2)),(19,(.ite (true && ((decide (97 ≤ y1)) == true)) (vB (decide (y1 ≤ 122))))),(18,(.ite (true && ((decide (97 ≤ y1)) == true)) (.d (.i .u8 y1))))]
   refine st 5 a9 (iao_step (n:=60015000) (k:=.i64) (i:=x10) (l:=b60015000_0.map cU8) (c:=[(.d (.i .u8 y1))]) kr kr (idx_get hiy1).1 kr ?_)
   refine stt_step (n:=60015000) (sz:=1) (i:=(x10).toNat) (off:=0) (l:=b60015000_0.map cU8) (c:=[(.d (.i .u8 y1))]) (s':=⟨(26,(.trp 60015000 1 (x10).toNat 0)) :: a9.env, [(60015000, [(.tro 1 (x10).toNat (b60015000_0.map cU8)),(.d (.i .u8 (IntKind.wrap .u8 ((IntKind.wrap .u8 (y1 - 97)) + 65))))])]⟩) kr kr kr kr (ni (bn ?_))
   exact next_step (s':=stiFold_J1 p0 x10 (b60015000_0.set (x10).toNat (IntKind.wrap .u8 ((IntKind.wrap .u8 (y1 - 97)) + 65)))) (tw [.clo 60015000, .rn [(60015000, 60050000)]] (wr [] (es (es (es (es er_nil)))) (bt_ (R:=(b60015000_0.set (x10).toNat (IntKind.wrap .u8 ((IntKind.wrap .u8 (y1 - 97)) + 65))).map cU8) (set_map (l:=b60015000_0) (k:=(x10).toNat) (x:=(IntKind.wrap .u8 ((IntKind.wrap .u8 (y1 - 97)) + 65))) (fun _ => rfl)) br_nil))) (OK_iFold_J1 x10 (b60015000_0.set (x10).toNat (IntKind.wrap .u8 ((IntKind.wrap .u8 (y1 - 97)) + 65))) _ h)
   exact ki (bn (next_step (s':=stiFold_J1 p0 x10 (b60015000_0.set (x10).toNat y1)) (tw [.clo 60015000, .rn [(60015000, 60050000)]] (wr [] (es (es (es (es er_nil)))) (bt_ (R:=(b60015000_0.set (x10).toNat y1).map cU8) (set_map (l:=b60015000_0) (k:=(x10).toNat) (x:=y1) (fun _ => rfl)) br_nil))) (OK_iFold_J1 x10 (b60015000_0.set (x10).toNat y1) _ h)))
   exact ei (te (te (bh (next_step (s':=stiFold_J2 b60015000_0) (tw [.frz [60015000]] (wr [] (es er_nil) br_nil)) (OK_iFold_J2 b60015000_0 _ h)))))
theorem OK_iFold_J1 (p0:(List UInt8)) (x10:Int) (b60050000_0:(List Int)) (r:(List UInt8)) (h:iFold_J1 p0 x10 b60050000_0 = some r):avc Tryz.prog aciFold_J1 (qiFold_2 r) (stiFold_J1 p0 x10 b60050000_0):=(OKs_iFold_J1 p0).1 x10 b60050000_0 r h
theorem OK_iFold_L0 (p0:(List UInt8)) (x10:Int) (b60015000_0:(List Int)) (r:(List UInt8)) (h:iFold_L0 p0 x10 b60015000_0 = some r):avc Tryz.prog aciFold_L0 (qiFold_1 r) (stiFold_L0 p0 x10 b60015000_0):=(OKs_iFold_J1 p0).2 x10 b60015000_0 r h
theorem OK_iFold (p0:(List UInt8)):FOk Tryz.prog 68 [(vS p0)] (fun y => (vS y)) (iFold p0):=by
 intro r h
 rw [iFold] at h
 refine aof triFold ?_
 show avc Tryz.prog aciFold (qiFold _) ⟨[(0,(vS p0))], []⟩
 delta aciFold
 refine so ?_
 let a0:St:=⟨[(2,(vS [])),(0,(vS p0))], []⟩
 refine st 1 a0 (nx (so ?_))
 let a1:St:=a0.p [(6,(vS p0))]
 refine st 1 a1 (csb_step (b:=p0) (s':=⟨(7,(.tre 7)) :: a1.env, [(7, [(.trc 1 ((toBytes p0).map cU8))])]⟩) kr kr kr ?_)
 let a2:St:=⟨(3,(.tre 7)) :: (7,(.tre 7)) :: a1.env, [(7, [(.trc 1 ((toBytes p0).map cU8))])]⟩
 refine st 1 a2 (nx (si (so ?_)))
 let a3:St:=a2.p [(8,(.tre 7))]
 refine st 1 a3 (ps (vI ((toBytes p0).length:Int)) (vop_lenT (n:=7) (l:=(toBytes p0).map cU8) (L:=(toBytes p0).length) kr kr (List.length_map ..)) ?_)
 let a4:St:=a3.p [(10,(vI 0)),(9,(vI ((toBytes p0).length:Int)))]
 exact st 1 a4 (nx (bi (loop_go (s':=stiFold_L0 p0 0 (toBytes p0)) (tw [.rn [(7, 60015000)]] (wr [] (es (es (es (es er_nil)))) (bs_ br_nil))) (OK_iFold_L0 p0 0 (toBytes p0) _ h))))
theorem OKs_gSlices_Index_Sstring_string_L0 (p0:(List (List UInt8))) (p1:(List UInt8)):(∀ (x8:Int) (r:Int), gSlices_Index_Sstring_string_L0 p0 p1 x8 = some r → avc Tryz.prog acgSlices_Index_Sstring_string_L0 (qgSlices_Index_Sstring_string_1 r) (stgSlices_Index_Sstring_string_L0 p0 p1 x8)):=by
 refine gSlices_Index_Sstring_string_L0.partial_correctness p0 p1 (fun x8 r => avc Tryz.prog acgSlices_Index_Sstring_string_L0 (qgSlices_Index_Sstring_string_1 r) (stgSlices_Index_Sstring_string_L0 p0 p1 x8)) ?_
 · intro F_gSlices_Index_Sstring_string_L0 OK_gSlices_Index_Sstring_string_L0 x8 r h
   delta acgSlices_Index_Sstring_string_L0
   refine loop_unroll (so ?_)
   let a3:St:=(stgSlices_Index_Sstring_string_L0 p0 p1 x8).p [(9,(vB (decide (x8 < (ln p0)))))]
   refine st 1 a3 (nx (si ?_))
   refine cd h (fun h => ?_) fun h => ?_
   refine ki (xi (si (bi (so ?_))))
   let a4:St:=a3.p [(5,(vI x8)),(10,(vI x8))]
   refine st 2 a4 (nx (so ?_))
   let a5:St:=a4.p [(13,(vI x8)),(12,(.d (.sl 1 (p0.map cStr)))),(11,(vS p1))]
   refine st 3 a5 (vs (fun (y:(List UInt8)) => (.rp [(.s (bs y))])) h (fun y hy => via (l:=p0) (f:=cStr) (g:=cStr) (k:=.i64) hy (fun _ => rfl)) fun y1 h => ?_)
   let a6:St:=a5.p [(16,(vB (decide (p1 = y1)))),(15,(vS y1)),(14,(.rp [(.s (bs y1))]))]
   refine st 2 a6 (nx ?_)
   refine cd h (fun h => ?_) fun h => ?_
   refine so ?_
   let a7:St:=a6.p [(4,(vI x8)),(17,(vI x8))]
   refine st 2 a7 (nx (ri (br (tr (tr (br (tr ?_)))))))
   injection h with h; subst h
   exact r1 (v:=(vI x8))
   refine ki (bn (xi (oi ?_)))
   let a8:St:=a6.p [(8,(vI (IntKind.wrap .i64 (x8 + 1)))),(18,(vI (IntKind.wrap .i64 (x8 + 1))))]
   exact st 2 a8 (ni (loop_back (s':=stgSlices_Index_Sstring_string_L0 p0 p1 (IntKind.wrap .i64 (x8 + 1))) (wr [] (es (es (es (es er_nil)))) br_nil) (OK_gSlices_Index_Sstring_string_L0 (IntKind.wrap .i64 (x8 + 1)) _ h)))
   refine ei (te (te (bh (xi (so ?_)))))
   let a9:St:=a3.p [(4,(vI (-1)))]
   refine st 1 a9 (nx (ri ?_))
   injection h with h; subst h
   exact r1 (v:=(vI (-1)))
theorem OK_gSlices_Index_Sstring_string_L0 (p0:(List (List UInt8))) (p1:(List UInt8)) (x8:Int) (r:Int) (h:gSlices_Index_Sstring_string_L0 p0 p1 x8 = some r):avc Tryz.prog acgSlices_Index_Sstring_string_L0 (qgSlices_Index_Sstring_string_1 r) (stgSlices_Index_Sstring_string_L0 p0 p1 x8):=(OKs_gSlices_Index_Sstring_string_L0 p0 p1) x8 r h
theorem OK_gSlices_Index_Sstring_string (p0:(List (List UInt8))) (p1:(List UInt8)):FOk Tryz.prog 113 [(.d (.sl 1 (p0.map cStr))),(vS p1)] (fun y => (vI y)) (gSlices_Index_Sstring_string p0 p1):=by
 intro r h
 rw [gSlices_Index_Sstring_string] at h
 refine aof trgSlices_Index_Sstring_string ?_
 show avc Tryz.prog acgSlices_Index_Sstring_string (qgSlices_Index_Sstring_string _) ⟨[(0,(.d (.sl 1 (p0.map cStr)))),(1,(vS p1))], []⟩
 delta acgSlices_Index_Sstring_string
 refine so ?_
 let a0:St:=⟨[(4,(vI 0)),(0,(.d (.sl 1 (p0.map cStr)))),(1,(vS p1))], []⟩
 refine st 1 a0 (nx (si (so ?_)))
 let a1:St:=a0.p [(6,(.d (.sl 1 (p0.map cStr))))]
 refine st 1 a1 (ps (vI (ln p0)) (vln (sz:=1) (l:=p0) (f:=cStr)) ?_)
 let a2:St:=a1.p [(8,(vI 0)),(7,(vI (ln p0)))]
 exact st 1 a2 (nx (bi (loop_go (s':=stgSlices_Index_Sstring_string_L0 p0 p1 0) (wr [] (es (es (es (es er_nil)))) br_nil) (OK_gSlices_Index_Sstring_string_L0 p0 p1 0 _ h))))
theorem OK_gStrings_Split (p0:(List UInt8)) (p1:(List UInt8)):FOk Tryz.prog 144 [(vS p0),(vS p1)] (fun y => (.d (.sl 1 (y.map cStr)))) (gStrings_Split p0 p1):=by
 intro r h
 rw [gStrings_Split] at h
 exact acalls_split (ρ:=sh146_ren) sh146 kr kr kr (.tail _ (.head _)) p0 p1 r h
theorem OK_iKeywords:FOk Tryz.prog 114 [] (fun y => (.d (.sl 1 (y.map cStr)))) (iKeywords):=by
 intro r h
 rw [iKeywords] at h
 refine aof triKeywords ?_
 show avc Tryz.prog aciKeywords (qiKeywords _) ⟨[], []⟩
 delta aciKeywords
 refine so ?_
 let a0:St:=⟨[(0,(.nil 1))], []⟩
 refine st 1 a0 (nx (so ?_))
 refine cs h (OK_gStrings_Split [83, 69, 76, 69, 67, 84, 32, 68, 73, 83, 84, 73, 78, 67, 84, 32, 70, 82, 79, 77, 32, 74, 79, 73, 78, 32, 79, 78, 32, 87, 72, 69, 82, 69, 32, 79, 82, 68, 69, 82, 32, 66, 89, 32, 65, 83, 67, 32, 68, 69, 83, 67, 32, 76, 73, 77, 73, 84, 32, 65, 83, 32, 65, 78, 68, 32, 79, 82, 32, 78, 79, 84, 32, 73, 83, 32, 73, 78, 32, 66, 69, 84, 87, 69, 69, 78, 32, 69, 88, 73, 83, 84, 83, 32, 78, 85, 76, 76, 32, 84, 82, 85, 69, 32, 70, 65, 76, 83, 69, 32, 73, 78, 83, 69, 82, 84, 32, 73, 78, 84, 79, 32, 86, 65, 76, 85, 69, 83, 32, 85, 80, 68, 65, 84, 69, 32, 83, 69, 84, 32, 68, 69, 76, 69, 84, 69] [32]) fun y1 h => ?_
 let a1:St:=a0.p [(0,(.d (.sl 1 (y1.map cStr)))),(1,(.d (.sl 1 (y1.map cStr))))]
 refine st 1 a1 (nx (ri ?_))
 have h:=Option.some.inj h; subst h
 exact r1 (v:=(.d (.sl 1 (y1.map cStr))))
theorem OK_iKeyOf (p0:(List UInt8)):FOk Tryz.prog 67 [(vS p0)] (fun y => (vI y)) (iKeyOf p0):=by
 intro r h
 rw [iKeyOf] at h
 refine aof triKeyOf ?_
 show avc Tryz.prog aciKeyOf (qiKeyOf _) ⟨[(0,(vS p0))], []⟩
 delta aciKeyOf
 refine so ?_
 let a0:St:=⟨[(2,(vI 0)),(0,(vS p0))], []⟩
 refine st 1 a0 (nx (so (cs h (OK_iKeywords) fun y1 h => ?_)))
 let a1:St:=a0.p [(4,(vS p0)),(3,(.d (.sl 1 (y1.map cStr))))]
 refine st 1 a1 (cs h (OK_iFold p0) fun y2 h => (cs h (OK_gSlices_Index_Sstring_string y1 y2) fun y3 h => ?_))
 let a2:St:=a1.p [(2,(vI (IntKind.wrap .i64 (y3 + 1)))),(7,(vI (IntKind.wrap .i64 (y3 + 1)))),(6,(vI y3)),(5,(vS y2))]
 refine st 2 a2 (nx (ri ?_))
 have h:=Option.some.inj h; subst h
 exact r1 (v:=(vI (IntKind.wrap .i64 (y3 + 1))))
theorem OK_iNameOk (p0:(List UInt8)):FOk Tryz.prog 100 [(vS p0)] (fun y => (vB y)) (iNameOk p0):=by
 intro r h
 rw [iNameOk] at h
 refine aof triNameOk ?_
 show avc Tryz.prog aciNameOk (qiNameOk _) ⟨[(0,(vS p0))], []⟩
 delta aciNameOk
 refine so ?_
 let a0:St:=⟨[(2,(vB false)),(0,(vS p0))], []⟩
 refine st 1 a0 (nx (so ?_))
 let a1:St:=a0.p [(6,(vB (decide (1 ≤ (ln p0))))),(5,(vB (decide (1 ≤ (ln p0))))),(4,(vI (ln p0))),(3,(vS p0))]
 refine st 4 a1 (gp true (decide (1 ≤ (ln p0))) (vS p0) (fun hc => vl) (gp true (decide (1 ≤ (ln p0))) (vI (ln p0)) (fun hc => vg hc) (gp true (decide (1 ≤ (ln p0))) (vB (decide ((ln p0) ≤ 20))) (fun hc => vg hc) ?_)))
 refine vs (fun (y:Bool) => (vB y)) h (fun y hy => vop_pickV hy (p:=(true && ((decide (1 ≤ (ln p0))) == true))) (q:=true) kr kr kr kr (fun hb => gc_t rfl hb) (fun _ => rfl)) fun y1 h => ?_
 let a2:St:=a1.p [(2,(vB y1)),(10,(vB y1)),(9,(.ite (true && ((decide (1 ≤ (ln p0))) == true)) (vB (decide ((ln p0) ≤ 20))))),(8,(.ite (true && ((decide (1 ≤ (ln p0))) == true)) (vI (ln p0)))),(7,(.ite (true && ((decide (1 ≤ (ln p0))) == true)) (vS p0)))]
 refine st 1 a2 (nx (ri ?_))
 injection h with h; subst h
 exact r1 (v:=(vB y1))
theorem OK_iNumber (p0:(List UInt8)):FOk Tryz.prog 101 [(vS p0)] (fun y => (.tup [(vI y.1),(vB y.2)])) (iNumber p0):=by
 intro r h
 rw [iNumber] at h
 exact acalls_number number_walk_101 (.tail _ (.tail _ (.head _))) (.tail _ (.tail _ (.tail _ (.head _)))) (.head _) p0 r h
theorem OK_gSlices_Contains_Sstring_string (p0:(List (List UInt8))) (p1:(List UInt8)):FOk Tryz.prog 136 [(.d (.sl 1 (p0.map cStr))),(vS p1)] (fun y => (vB y)) (gSlices_Contains_Sstring_string p0 p1):=by
 intro r h
 rw [gSlices_Contains_Sstring_string] at h
 refine aof trgSlices_Contains_Sstring_string ?_
 show avc Tryz.prog acgSlices_Contains_Sstring_string (qgSlices_Contains_Sstring_string _) ⟨[(0,(.d (.sl 1 (p0.map cStr)))),(1,(vS p1))], []⟩
 delta acgSlices_Contains_Sstring_string
 refine so ?_
 let a0:St:=⟨[(4,(vB false)),(0,(.d (.sl 1 (p0.map cStr)))),(1,(vS p1))], []⟩
 refine st 1 a0 (nx (so ?_))
 let a1:St:=a0.p [(6,(vS p1)),(5,(.d (.sl 1 (p0.map cStr))))]
 refine st 2 a1 (cs h (OK_gSlices_Index_Sstring_string p0 p1) fun y1 h => ?_)
 let a2:St:=a1.p [(4,(vB (decide (0 ≤ y1)))),(8,(vB (decide (0 ≤ y1)))),(7,(vI y1))]
 refine st 2 a2 (nx (ri ?_))
 injection h with h; subst h
 exact r1 (v:=(vB (decide (0 ≤ y1))))
theorem OK_iSigns:FOkB Tryz.prog 70 [] [] (fun (y:(List (List UInt8))) => (.osl 2000000 9 1 (y.map cStr))) (fun (y:(List (List UInt8))) => []) (iSigns):=by
 intro r h
 rw [iSigns] at h
 refine aof triSigns ?_
 show avc Tryz.prog aciSigns (qiSigns _) ⟨[], []⟩
 delta aciSigns
 refine so ?_
 let a0:St:=⟨[(0,(.nil 1))], []⟩
 refine st 1 a0 (nx (so (bsl_step (l:=([[40], [41], [44], [46], [42], [43], [45], [47], [37], [61], [60, 62], [60], [60, 61], [62], [62, 61], [124, 124]]:List (List UInt8))) (f:=cStr) (g:=cStr) kr (fun _ => rfl) kr ?_)))
 let a1:St:=a0.p [(0,(.osl 0 9 1 (([[40], [41], [44], [46], [42], [43], [45], [47], [37], [61], [60, 62], [60], [60, 61], [62], [62, 61], [124, 124]]:List (List UInt8)).map cStr))),(1,(.d (.sl 1 (([[40], [41], [44], [46], [42], [43], [45], [47], [37], [61], [60, 62], [60], [60, 61], [62], [62, 61], [124, 124]]:List (List UInt8)).map cStr))))]
 refine st 1 a1 (nx (ret_wk (s':=⟨[(0,(.osl 2000000 9 1 (([[40], [41], [44], [46], [42], [43], [45], [47], [37], [61], [60, 62], [60], [60, 61], [62], [62, 61], [124, 124]]:List (List UInt8)).map cStr)))], []⟩) (wr [(2000000, .old 0)] (eo 0 er_nil) br_nil) ?_))
 injection h with h; subst h
 exact ret1_step (v:=(.osl 2000000 9 1 (([[40], [41], [44], [46], [42], [43], [45], [47], [37], [61], [60, 62], [60], [60, 61], [62], [62, 61], [124, 124]]:List (List UInt8)).map cStr))) kr kr ⟨by kernel_rfl, trivial⟩
theorem OK_iSignOk (p0:(List UInt8)):FOk Tryz.prog 102 [(vS p0)] (fun y => (vB y)) (iSignOk p0):=by
 intro r h
 rw [iSignOk] at h
 refine aof triSignOk ?_
 show avc Tryz.prog aciSignOk (qiSignOk _) ⟨[(0,(vS p0))], []⟩
 delta aciSignOk
 refine so ?_
 let a0:St:=⟨[(2,(vB false)),(0,(vS p0))], []⟩
 refine st 1 a0 (nx (so (callg_step ⟨[], [], [], [], [], [(2000000, 3)], [], [3], []⟩ (m:=iSigns) (S':=fun (y:(List (List UInt8))) => ⟨(3,(.osl 3 9 1 (y.map cStr))) :: a0.env, a0.bx⟩) h (OK_iSigns) kr kr kr kr (fun y => by kernel_rfl) (fun y => by kernel_rfl) ?_)))
 clear h; intro y1 h
 let a1:St:=a0.p [(4,(vS p0)),(3,(.osl 3 9 1 (y1.map cStr)))]
 refine st 1 a1 (cs h (OK_gSlices_Contains_Sstring_string y1 p0) fun y2 h => ?_)
 let a2:St:=a1.p [(2,(vB y2)),(5,(vB y2))]
 refine st 1 a2 (nx (ri ?_))
 injection h with h; subst h
 exact r1 (v:=(vB y2))
theorem OK_iTokenOk (p0:GToken):FOk Tryz.prog 51 [(vGToken p0)] (fun y => (vB y)) (iTokenOk p0):=by
 intro r h
 rw [iTokenOk] at h
 refine aof triTokenOk ?_
 show avc Tryz.prog aciTokenOk (qiTokenOk _) ⟨[(0,(vGToken p0))], []⟩
 delta aciTokenOk
 refine so ?_
 let a0:St:=⟨[(2,(vB false)),(1,(.ptr 1 0)),(0,(vGToken p0))], [(1, bGToken p0)]⟩
 refine st 2 a0 (nx (si (so ?_)))
 let a1:St:=a0.p [(6,(vI p0.kind)),(5,(.ptr 1 0))]
 refine st 2 a1 (nx (bi (so ?_)))
 let a2:St:=a1.p [(7,(vB (decide (p0.kind = 1)))),(8,(vB (decide (p0.kind = 1))))]
 refine st 2 a2 (nx ?_)
 refine cd h (fun h => ?_) fun h => ?_
 refine si (dops_in ?_)
 let a3:St:=a2.p [(10,(vS p0.text)),(9,(.ptr 1 1))]
 refine dsts_ok 2 (s':=a3) kr (dcall_step (m:=iKeyOf p0.text) (args:=[(vS p0.text)]) (v':=(fun y => (vI y))) h (OK_iKeyOf p0.text) kr kr (fun _ => rfl) ?_)
 clear h; intro y1 h
 let a4:St:=a3.p [(13,(vB (!decide (y1 = 0)))),(12,(vB (!decide (y1 = 0)))),(11,(vI y1))]
 refine dsts_ok 2 (s':=a4) kr (dgp_step (p:=true) (b:=(!decide (y1 = 0))) (v':=(.ptr 1 1)) kr rfl rfl (fun hc => vl) (dgp_step (p:=true) (b:=(!decide (y1 = 0))) (v':=(vS p0.text)) kr rfl rfl (fun hc => vg hc) ?_))
 refine dgcall_step (p:=true) (b:=(!decide (y1 = 0))) (m:=iFold p0.text) (dflt:=default) (args:=[(vS p0.text)]) (v':=(fun y => (vS y))) h kr (OK_iFold p0.text) (fun hc => by kernel_rfl) kr (fun _ => rfl) (fun hc => (Eq.trans (b:=([(true && ((!decide (y1 = 0)) == true))]:List Bool).all id) kr (all_c hc rfl))) ?_
 clear h; intro y2 h
 refine dgp_step (p:=true) (b:=(!decide (y1 = 0))) (v':=(.ptr 1 1)) kr rfl rfl (fun hc => vl) (dgp_step (p:=true) (b:=(!decide (y1 = 0))) (v':=(vS p0.text)) kr rfl rfl (fun hc => vg hc) ?_)
 refine dgp_step (p:=true) (b:=(!decide (y1 = 0))) (v':=(vB (decide (y2 = p0.text)))) kr rfl rfl (fun hc => vop_val1 (Eq.trans (b:=([(true && ((!decide (y1 = 0)) == true)),(true && ((!decide (y1 = 0)) == true))]:List Bool).all id) kr (all_c hc (all_c hc rfl))) kr) ?_
 refine dv_step (m:=some (if (!decide (y1 = 0)) = true then (decide (y2 = p0.text)) else false)) (v':=fun y => (vB y)) h rfl rfl (fun y hy => vop_pickV hy (p:=(true && ((!decide (y1 = 0)) == true))) (q:=true) kr kr kr kr (fun hb => gc_t rfl hb) (fun _ => rfl)) ?_
 clear h; intro y3 h
 let a5:St:=a4.p [(2,(vB y3)),(20,(vB y3)),(19,(.ite (true && ((!decide (y1 = 0)) == true)) (vB (decide (y2 = p0.text))))),(18,(.ite (true && ((!decide (y1 = 0)) == true)) (vS p0.text))),(17,(.ite (true && ((!decide (y1 = 0)) == true)) (.ptr 1 1))),(16,(.ite (true && ((!decide (y1 = 0)) == true)) (vS y2))),(15,(.ite (true && ((!decide (y1 = 0)) == true)) (vS p0.text))),(14,(.ite (true && ((!decide (y1 = 0)) == true)) (.ptr 1 1)))]
 refine dsts_ok 1 (s':=a5) kr (dnil_in kr kr (xi (ri (br (tr ?_)))))
 injection h with h; subst h
 exact r1 (v:=(vB y3))
 refine so ?_
 let a6:St:=a2.p [(21,(vB (decide (p0.kind = 2)))),(22,(vB (decide (p0.kind = 2))))]
 refine st 2 a6 (nx ?_)
 refine cd h (fun h => ?_) fun h => ?_
 refine so ?_
 let a7:St:=a6.p [(24,(vS p0.text)),(23,(.ptr 1 1))]
 refine st 2 a7 (cs h (OK_iNameOk p0.text) fun y4 h => ?_)
 let a8:St:=a7.p [(2,(vB y4)),(25,(vB y4))]
 refine st 1 a8 (nx (ri (br (tr ?_))))
 injection h with h; subst h
 exact r1 (v:=(vB y4))
 refine so ?_
 let a9:St:=a6.p [(26,(vB (decide (p0.kind = 3)))),(27,(vB (decide (p0.kind = 3))))]
 refine st 2 a9 (nx ?_)
 refine cd h (fun h => ?_) fun h => ?_
 refine so ?_
 let a10:St:=a9.p [(30,(vS p0.text)),(29,(.ptr 1 1))]
 refine st 2 a10 (cs h (OK_iNumber p0.text) fun y5 h => ?_)
 let a11:St:=a10.p [(4,(vB y5.2)),(3,(vI y5.1)),(33,(vB y5.2)),(32,(vI y5.1)),(28,(.tup [(vI y5.1),(vB y5.2)])),(31,(.tup [(vI y5.1),(vB y5.2)]))]
 refine st 5 a11 (nx (so ?_))
 let a12:St:=a11.p [(2,(vB y5.2)),(34,(vB y5.2))]
 refine st 2 a12 (nx (ri (br (tr ?_))))
 injection h with h; subst h
 exact r1 (v:=(vB y5.2))
 refine so ?_
 let a13:St:=a9.p [(35,(vB (decide (p0.kind = 4)))),(36,(vB (decide (p0.kind = 4))))]
 refine st 2 a13 (nx ?_)
 refine cd h (fun h => ?_) fun h => ?_
 refine so ?_
 let a14:St:=a13.p [(2,(vB (decide ((ln p0.text) ≤ 40)))),(40,(vB (decide ((ln p0.text) ≤ 40)))),(39,(vI (ln p0.text))),(38,(vS p0.text)),(37,(.ptr 1 1))]
 refine st 5 a14 (nx (ri (br (tr ?_))))
 injection h with h; subst h
 exact r1 (v:=(vB (decide ((ln p0.text) ≤ 40))))
 refine so ?_
 let a15:St:=a13.p [(41,(vB (decide (p0.kind = 5)))),(42,(vB (decide (p0.kind = 5))))]
 refine st 2 a15 (nx ?_)
 refine cd h (fun h => ?_) fun h => ?_
 refine so ?_
 let a16:St:=a15.p [(44,(vS p0.text)),(43,(.ptr 1 1))]
 refine st 2 a16 (cs h (OK_iSignOk p0.text) fun y6 h => ?_)
 let a17:St:=a16.p [(2,(vB y6)),(45,(vB y6))]
 refine st 1 a17 (nx (ri (br (tr ?_))))
 injection h with h; subst h
 exact r1 (v:=(vB y6))
 refine ki (bn (xi (so ?_)))
 let a18:St:=a15.p [(2,(vB false))]
 refine st 1 a18 (nx (ri ?_))
 injection h with h; subst h
 exact r1 (v:=(vB false))
theorem OK_iReadToken_J1 (p1:Int) (x8_5:Int) (b7_0:Int) (b7_1:(List UInt8)) (r:GToken × Int × Bool) (h:iReadToken_J1 p1 x8_5 b7_0 b7_1 = some r):avc Tryz.prog aciReadToken_J1 (qiReadToken r) (stiReadToken_J1 p1 x8_5 b7_0 b7_1):=by
 rw [iReadToken_J1] at h
 delta aciReadToken_J1
 refine si (dops_in ?_)
 let a29:St:=(stiReadToken_J1 p1 x8_5 b7_0 b7_1).p [(108,(vGToken (GToken.mk b7_0 b7_1 p1))),(107,(vI x8_5)),(106,(vGToken (GToken.mk b7_0 b7_1 p1)))]
 refine dsts_ok 3 (s':=a29) kr (dcall_step (m:=iTokenOk (GToken.mk b7_0 b7_1 p1)) (args:=[(vGToken (GToken.mk b7_0 b7_1 p1))]) (v':=(fun y => (vB y))) h (OK_iTokenOk (GToken.mk b7_0 b7_1 p1)) kr kr (fun _ => rfl) ?_)
 clear h; intro y15 h
 let a30:St:=⟨(6,(vB y15)) :: (5,(vI x8_5)) :: (109,(vB y15)) :: a29.env, [(4, bGToken (GToken.mk b7_0 b7_1 p1)),(7, bGToken (GToken.mk b7_0 b7_1 p1))]⟩
 refine dsts_ok 3 (s':=a30) kr (dnil_in kr kr (xi (ri ?_)))
 injection h with h; subst h
 exact retn_step (vs:=[(vGToken (GToken.mk b7_0 b7_1 p1)),(vI x8_5),(vB y15)]) kr kr
theorem OKs_iReadToken_L0 (p0:(List UInt8)) (p1:Int) (y1:Int):(∀ (x8:Int) (r:GToken × Int × Bool), iReadToken_L0 p0 p1 y1 x8 = some r → avc Tryz.prog aciReadToken_L0 (qiReadToken_3 r) (stiReadToken_L0 p0 p1 y1 x8)):=by
 refine iReadToken_L0.partial_correctness p0 p1 y1 (fun x8 r => avc Tryz.prog aciReadToken_L0 (qiReadToken_3 r) (stiReadToken_L0 p0 p1 y1 x8)) ?_
 · intro F_iReadToken_L0 OK_iReadToken_L0 x8 r h
   delta aciReadToken_L0
   refine loop_unroll (si (so ?_))
   let a19:St:=(stiReadToken_L0 p0 p1 y1 x8).p [(56,(vB (decide (x8 < (ln p0))))),(55,(vB (decide (x8 < (ln p0))))),(54,(vI (ln p0))),(53,(vS p0)),(52,(vI x8))]
   refine st 5 a19 (gp true (decide (x8 < (ln p0))) (vS p0) (fun hc => vl) (gp true (decide (x8 < (ln p0))) (vI x8) (fun hc => vl) ?_))
   refine gv true (decide (x8 < (ln p0))) (fun (y:Int) => (.d (.i .u8 y))) h (fun y hy hc => vop_ix (b:=p0) (k:=.i64) hy (Eq.trans (b:=([(true && ((decide (x8 < (ln p0))) == true)),(true && ((decide (x8 < (ln p0))) == true))]:List Bool).all id) kr (all_c hc (all_c hc rfl))) kr kr) fun y8 h => ?_
   refine gcall_step (p:=true) (b:=(decide (x8 < (ln p0)))) (m:=iIsPart y8) (dflt:=default) (args:=[(.d (.i .u8 y8))]) (v':=(fun y => (vB y))) h kr (OK_iIsPart y8) (fun hc => by kernel_rfl) kr (fun _ => rfl) (fun hc => (Eq.trans (b:=([(true && ((decide (x8 < (ln p0))) == true))]:List Bool).all id) kr (all_c hc rfl))) ?_
   clear h; intro y9 h
   refine vs (fun (y:Bool) => (vB y)) h (fun y hy => vop_pickV hy (p:=(true && ((decide (x8 < (ln p0))) == true))) (q:=true) kr kr kr kr (fun hb => gc_t rfl hb) (fun _ => rfl)) fun y10 h => (nx ?_)
   refine cd h (fun h => ?_) fun h => ?_
   refine ki (xi (bi (oi ?_)))
   let a20:St:=a19.p [(8,(vI (IntKind.wrap .i64 (x8 + 1)))),(63,(vI (IntKind.wrap .i64 (x8 + 1)))),(62,(vI x8)),(61,(vB y10)),(60,(.ite (true && ((decide (x8 < (ln p0))) == true)) (vB y9))),(59,(.ite (true && ((decide (x8 < (ln p0))) == true)) (.d (.i .u8 y8)))),(58,(.ite (true && ((decide (x8 < (ln p0))) == true)) (vI x8))),(57,(.ite (true && ((decide (x8 < (ln p0))) == true)) (vS p0)))]
   refine st 3 a20 (ni (bn ?_))
   exact loop_back (s':=stiReadToken_L0 p0 p1 y1 (IntKind.wrap .i64 (x8 + 1))) (wr [] (es (es (es (es (es (es er_nil)))))) (bs_ (bs_ br_nil))) (OK_iReadToken_L0 (IntKind.wrap .i64 (x8 + 1)) _ h)
   refine ei (te (te (bh (xi (si (dops_in ?_))))))
   let a21:St:=a19.p [(66,(vI x8)),(65,(vI p1)),(64,(vS p0)),(61,(vB y10)),(60,(.ite (true && ((decide (x8 < (ln p0))) == true)) (vB y9))),(59,(.ite (true && ((decide (x8 < (ln p0))) == true)) (.d (.i .u8 y8)))),(58,(.ite (true && ((decide (x8 < (ln p0))) == true)) (vI x8))),(57,(.ite (true && ((decide (x8 < (ln p0))) == true)) (vS p0)))]
   refine dsts_ok 3 (s':=a21) kr (dv_step (m:=subl p0 p1 x8) (v':=fun y => (vS y)) h rfl rfl (fun y hy => vop_sls (b:=p0) (lo:=p1) (hi:=x8) hy kr kr ⟨kr, .i64, kr⟩ ⟨kr, .i64, kr⟩) ?_)
   clear h; intro y11 h
   let a22:St:=⟨(69,(.ptr 7 1)) :: (68,(.ptr 7 0)) :: (67,(vS y11)) :: a21.env, [(4, [(vI 0),(vS []),(vI 0)]),(7, bGToken (GToken.mk 2 y11 p1))]⟩
   refine dsts_ok 4 (s':=a22) kr (dnil_in kr kr (xi (so ?_)))
   let a23:St:=a22.p [(70,(.d (.i .u8 y1)))]
   refine st 1 a23 (cs h (OK_iIsDigit y1) fun y12 h => (nx ?_))
   refine cd h (fun h => ?_) fun h => ?_
   refine oi ?_
   let a24:St:=⟨(72,(.ptr 7 0)) :: (71,(vB y12)) :: a23.env, [(4, [(vI 0),(vS []),(vI 0)]),(7, bGToken (GToken.mk 3 y11 p1))]⟩
   exact st 2 a24 (ni (bn (next_step (s':=stiReadToken_J1 p1 x8 3 y11) (wr [] (es (es (es er_nil))) (bs_ (bs_ br_nil))) (OK_iReadToken_J1 p1 x8 3 y11 _ h))))
   refine so ?_
   let a25:St:=a23.p [(74,(vS y11)),(73,(.ptr 7 1)),(71,(vB y12))]
   refine st 2 a25 (cs h (OK_iKeyOf y11) fun y13 h => ?_)
   let a26:St:=a25.p [(76,(vB (!decide (y13 = 0)))),(75,(vI y13))]
   refine st 1 a26 (nx ?_)
   refine cd h (fun h => ?_) fun h => ?_
   refine oi ?_
   let a27:St:=a26.p [(78,(vS y11)),(77,(.ptr 7 1))]
   refine st 2 a27 (cs h (OK_iFold y11) fun y14 h => ?_)
   let a28:St:=⟨(81,(.ptr 7 1)) :: (80,(.ptr 7 0)) :: (79,(vS y14)) :: a27.env, [(4, [(vI 0),(vS []),(vI 0)]),(7, bGToken (GToken.mk 1 y14 p1))]⟩
   exact st 4 a28 (ni (bn (next_step (s':=stiReadToken_J1 p1 x8 1 y14) (wr [] (es (es (es er_nil))) (bs_ (bs_ br_nil))) (OK_iReadToken_J1 p1 x8 1 y14 _ h))))
   exact ki (bn (next_step (s':=stiReadToken_J1 p1 x8 2 y11) (wr [] (es (es (es er_nil))) (bs_ (bs_ br_nil))) (OK_iReadToken_J1 p1 x8 2 y11 _ h)))
theorem OK_iReadToken_L0 (p0:(List UInt8)) (p1:Int) (y1:Int) (x8:Int) (r:GToken × Int × Bool) (h:iReadToken_L0 p0 p1 y1 x8 = some r):avc Tryz.prog aciReadToken_L0 (qiReadToken_3 r) (stiReadToken_L0 p0 p1 y1 x8):=(OKs_iReadToken_L0 p0 p1 y1) x8 r h
theorem OK_gInternal_stringslite_HasPrefix (p0:(List UInt8)) (p1:(List UInt8)):FOk Tryz.prog 110 [(vS p0),(vS p1)] (fun y => (vB y)) (gInternal_stringslite_HasPrefix p0 p1):=by
 intro r h
 rw [gInternal_stringslite_HasPrefix] at h
 refine aof trgInternal_stringslite_HasPrefix ?_
 show avc Tryz.prog acgInternal_stringslite_HasPrefix (qgInternal_stringslite_HasPrefix _) ⟨[(0,(vS p0)),(1,(vS p1))], []⟩
 delta acgInternal_stringslite_HasPrefix
 refine so ?_
 let a0:St:=⟨[(4,(vB false)),(0,(vS p0)),(1,(vS p1))], []⟩
 refine st 1 a0 (nx (so ?_))
 let a1:St:=a0.p [(10,(vB (decide ((ln p1) ≤ (ln p0))))),(9,(vB (decide ((ln p1) ≤ (ln p0))))),(8,(vI (ln p1))),(7,(vS p1)),(6,(vI (ln p0))),(5,(vS p0))]
 refine st 6 a1 (gp true (decide ((ln p1) ≤ (ln p0))) (vS p0) (fun hc => vl) (gp true (decide ((ln p1) ≤ (ln p0))) (vS p1) (fun hc => vl) (gp true (decide ((ln p1) ≤ (ln p0))) (vI (ln p1)) (fun hc => vg hc) ?_)))
 refine gv true (decide ((ln p1) ≤ (ln p0))) (fun (y:(List UInt8)) => (vS y)) h (fun y hy hc => vop_sls (b:=p0) (lo:=0) (hi:=(ln p1)) hy (Eq.trans (b:=([(true && ((decide ((ln p1) ≤ (ln p0))) == true))]:List Bool).all id) kr (all_c hc rfl)) kr ⟨(Eq.trans (b:=([(true && ((decide ((ln p1) ≤ (ln p0))) == true))]:List Bool).all id) kr (all_c hc rfl)), .i64, kr⟩ rfl) fun y1 h => ?_
 refine gp true (decide ((ln p1) ≤ (ln p0))) (vS p1) (fun hc => vl) ?_
 refine gp true (decide ((ln p1) ≤ (ln p0))) (vB (decide (y1 = p1))) (fun hc => vop_val1 (Eq.trans (b:=([(true && ((decide ((ln p1) ≤ (ln p0))) == true)),(true && ((decide ((ln p1) ≤ (ln p0))) == true))]:List Bool).all id) kr (all_c hc (all_c hc rfl))) kr) ?_
 refine vs (fun (y:Bool) => (vB y)) h (fun y hy => vop_pickV hy (p:=(true && ((decide ((ln p1) ≤ (ln p0))) == true))) (q:=true) kr kr kr kr (fun hb => gc_t rfl hb) (fun _ => rfl)) fun y2 h => ?_
 let a2:St:=a1.p [(4,(vB y2)),(17,(vB y2)),(16,(.ite (true && ((decide ((ln p1) ≤ (ln p0))) == true)) (vB (decide (y1 = p1))))),(15,(.ite (true && ((decide ((ln p1) ≤ (ln p0))) == true)) (vS p1))),(14,(.ite (true && ((decide ((ln p1) ≤ (ln p0))) == true)) (vS y1))),(13,(.ite (true && ((decide ((ln p1) ≤ (ln p0))) == true)) (vI (ln p1)))),(12,(.ite (true && ((decide ((ln p1) ≤ (ln p0))) == true)) (vS p1))),(11,(.ite (true && ((decide ((ln p1) ≤ (ln p0))) == true)) (vS p0)))]
 refine st 1 a2 (nx (ri ?_))
 injection h with h; subst h
 exact r1 (v:=(vB y2))
theorem OK_gStrings_HasPrefix (p0:(List UInt8)) (p1:(List UInt8)):FOk Tryz.prog 63 [(vS p0),(vS p1)] (fun y => (vB y)) (gStrings_HasPrefix p0 p1):=by
 intro r h
 rw [gStrings_HasPrefix] at h
 refine aof trgStrings_HasPrefix ?_
 show avc Tryz.prog acgStrings_HasPrefix (qgStrings_HasPrefix _) ⟨[(0,(vS p0)),(1,(vS p1))], []⟩
 delta acgStrings_HasPrefix
 refine so ?_
 let a0:St:=⟨[(4,(vB false)),(0,(vS p0)),(1,(vS p1))], []⟩
 refine st 1 a0 (nx (so ?_))
 let a1:St:=a0.p [(6,(vS p1)),(5,(vS p0))]
 refine st 2 a1 (cs h (OK_gInternal_stringslite_HasPrefix p0 p1) fun y1 h => ?_)
 let a2:St:=a1.p [(4,(vB y1)),(7,(vB y1))]
 refine st 1 a2 (nx (ri ?_))
 injection h with h; subst h
 exact r1 (v:=(vB y1))
theorem OKs_iReadToken_J3 (p0:(List UInt8)) (p1:Int) (y6:(List (List UInt8))):(∀ (x24:Int) (b7_1_20:(List UInt8)) (r:GToken × Int × Bool), iReadToken_J3 p0 p1 y6 x24 b7_1_20 = some r → avc Tryz.prog aciReadToken_J3 (qiReadToken_6 r) (stiReadToken_J3 p0 p1 y6 x24 b7_1_20)) ∧ (∀ (x24:Int) (b7_1_7:(List UInt8)) (r:GToken × Int × Bool), iReadToken_L2 p0 p1 y6 x24 b7_1_7 = some r → avc Tryz.prog aciReadToken_L2 (qiReadToken_5 r) (stiReadToken_L2 p0 p1 y6 x24 b7_1_7)):=by
 refine iReadToken_J3.mutual_partial_correctness p0 p1 y6 (fun x24 b7_1_20 r => avc Tryz.prog aciReadToken_J3 (qiReadToken_6 r) (stiReadToken_J3 p0 p1 y6 x24 b7_1_20)) (fun x24 b7_1_7 r => avc Tryz.prog aciReadToken_L2 (qiReadToken_5 r) (stiReadToken_L2 p0 p1 y6 x24 b7_1_7)) ?_ ?_
 · intro F_iReadToken_L2 OK_iReadToken_L2 x24 b7_1_20 r h
   delta aciReadToken_J3
   refine oi ?_
   let a38:St:=(stiReadToken_J3 p0 p1 y6 x24 b7_1_20).p [(24,(vI (IntKind.wrap .i64 (x24 + 1)))),(43,(vI (IntKind.wrap .i64 (x24 + 1))))]
   refine st 2 a38 (ni ?_)
   exact loop_back (s':=stiReadToken_L2 p0 p1 y6 (IntKind.wrap .i64 (x24 + 1)) b7_1_20) (wr [(22, .old 22)] (es (es (es (es (es (eo 22 (es (es er_nil)))))))) (bs_ (bs_ br_nil))) (OK_iReadToken_L2 (IntKind.wrap .i64 (x24 + 1)) b7_1_20 _ h)
 · intro F_iReadToken_J3 OK_iReadToken_J3 x24 b7_1_7 r h
   delta aciReadToken_L2
   refine loop_unroll (so ?_)
   let a31:St:=(stiReadToken_L2 p0 p1 y6 x24 b7_1_7).p [(25,(vB (decide (x24 < (ln y6)))))]
   refine st 1 a31 (nx (si ?_))
   refine cd h (fun h => ?_) fun h => ?_
   refine ki (xi (si (bi (so (vs (fun (y:(List UInt8)) => (.rp [(.s (bs y))])) h (fun y hy => via (l:=y6) (f:=cStr) (g:=cStr) (k:=.i64) hy (fun _ => rfl)) fun y16 h => ?_)))))
   let a32:St:=a31.p [(14,(vS y16)),(27,(vS y16)),(26,(.rp [(.s (bs y16))]))]
   refine st 2 a32 (nx (so ?_))
   let a33:St:=a32.p [(29,(vI p1)),(28,(vS p0))]
   refine st 2 a33 (vs (fun (y:(List UInt8)) => (vS y)) h (fun y hy => vop_sls (b:=p0) (lo:=p1) (hi:=(ln p0)) hy kr kr rfl ⟨kr, .i64, kr⟩) fun y17 h => ?_)
   let a34:St:=a33.p [(31,(vS y16)),(30,(vS y17))]
   refine st 1 a34 (cs h (OK_gStrings_HasPrefix y17 y16) fun y18 h => ?_)
   let a35:St:=a34.p [(33,(vB y18)),(32,(vB y18))]
   refine st 1 a35 (gp true y18 (vS y16) (fun hc => vl) (gp true y18 (vI (ln y16)) (fun hc => vg hc) (gp true y18 (.ptr 7 1) (fun hc => vl) (gp true y18 (vS b7_1_7) (fun hc => vg hc) (gp true y18 (vI (ln b7_1_7)) (fun hc => vg hc) ?_)))))
   refine gp true y18 (vB (decide ((ln b7_1_7) < (ln y16)))) (fun hc => vop_val1 (Eq.trans (b:=([(true && (y18 == true)),(true && (y18 == true))]:List Bool).all id) kr (all_c hc (all_c hc rfl))) kr) ?_
   refine vs (fun (y:Bool) => (vB y)) h (fun y hy => vop_pickV hy (p:=(true && (y18 == true))) (q:=true) kr kr kr kr (fun hb => gc_t rfl hb) (fun _ => rfl)) fun y19 h => (nx ?_)
   refine cd h (fun h => ?_) fun h => ?_
   refine oi ?_
   let a36:St:=⟨(42,(.ptr 7 1)) :: (41,(vS y16)) :: (40,(vB y19)) :: (39,(.ite (gT y18) (vB (decide ((ln b7_1_7) < (ln y16)))))) :: (38,(.ite (gT y18) (vI (ln b7_1_7)))) :: (37,(.ite (gT y18) (vS b7_1_7))) :: (36,(.ite (gT y18) (.ptr 7 1))) :: (35,(.ite (gT y18) (vI (ln y16)))) :: (34,(.ite (gT y18) (vS y16))) :: a35.env, [(4, [(vI 0),(vS []),(vI 0)]),(7, bGToken (GToken.mk 5 y16 p1))]⟩
   refine st 3 a36 (ni (bn ?_))
   exact next_step (s':=stiReadToken_J3 p0 p1 y6 x24 y16) (wr [(22, .old 22)] (es (es (es (es (es (eo 22 (es (es er_nil)))))))) (bs_ (bs_ br_nil))) (OK_iReadToken_J3 x24 y16 _ h)
   refine ki (bn ?_)
   exact next_step (s':=stiReadToken_J3 p0 p1 y6 x24 b7_1_7) (wr [(22, .old 22)] (es (es (es (es (es (eo 22 (es (es er_nil)))))))) (bs_ (bs_ br_nil))) (OK_iReadToken_J3 x24 b7_1_7 _ h)
   refine ei (te (te (bh (xi (oi ?_)))))
   let a37:St:=a31.p [(8,(vI (IntKind.wrap .i64 (p1 + (ln b7_1_7))))),(48,(vI (IntKind.wrap .i64 (p1 + (ln b7_1_7))))),(47,(vI (ln b7_1_7))),(46,(vS b7_1_7)),(45,(.ptr 7 1)),(44,(vI p1))]
   exact st 6 a37 (ni (bn (next_step (s':=stiReadToken_J1 p1 (IntKind.wrap .i64 (p1 + (ln b7_1_7))) 5 b7_1_7) (wr [] (es (es (es er_nil))) (bs_ (bs_ br_nil))) (OK_iReadToken_J1 p1 (IntKind.wrap .i64 (p1 + (ln b7_1_7))) 5 b7_1_7 _ h))))
theorem OK_iReadToken_J3 (p0:(List UInt8)) (p1:Int) (y6:(List (List UInt8))) (x24:Int) (b7_1_20:(List UInt8)) (r:GToken × Int × Bool) (h:iReadToken_J3 p0 p1 y6 x24 b7_1_20 = some r):avc Tryz.prog aciReadToken_J3 (qiReadToken_6 r) (stiReadToken_J3 p0 p1 y6 x24 b7_1_20):=(OKs_iReadToken_J3 p0 p1 y6).1 x24 b7_1_20 r h
theorem OK_iReadToken_L2 (p0:(List UInt8)) (p1:Int) (y6:(List (List UInt8))) (x24:Int) (b7_1_7:(List UInt8)) (r:GToken × Int × Bool) (h:iReadToken_L2 p0 p1 y6 x24 b7_1_7 = some r):avc Tryz.prog aciReadToken_L2 (qiReadToken_5 r) (stiReadToken_L2 p0 p1 y6 x24 b7_1_7):=(OKs_iReadToken_J3 p0 p1 y6).2 x24 b7_1_7 r h
theorem OK_iReadToken (p0:(List UInt8)) (p1:Int):FOk Tryz.prog 38 [(vS p0),(vI p1)] (fun y => (.tup [(vGToken y.1),(vI y.2.1),(vB y.2.2)])) (iReadToken p0 p1):=by
 intro r h
 rw [iReadToken] at h
 refine aof triReadToken ?_
 show avc Tryz.prog aciReadToken (qiReadToken _) ⟨[(0,(vS p0)),(1,(vI p1))], []⟩
 delta aciReadToken
 refine so ?_
 let a0:St:=⟨[(6,(vB false)),(5,(vI 0)),(4,(.ptr 4 0)),(0,(vS p0)),(1,(vI p1))], [(4, [(vI 0),(vS []),(vI 0)])]⟩
 refine st 3 a0 (nx (so ?_))
 let a1:St:=⟨(7,(.ptr 7 0)) :: (16,(vGToken (GToken.mk 0 [] p1))) :: (15,(vI p1)) :: a0.env, [(7, bGToken (GToken.mk 0 [] p1)),(4, [(vI 0),(vS []),(vI 0)])]⟩
 refine st 4 a1 (nx (so ?_))
 let a2:St:=a1.p [(8,(vI p1)),(17,(vI p1))]
 refine st 2 a2 (nx (si (so ?_)))
 let a3:St:=a2.p [(19,(vI p1)),(18,(vS p0))]
 refine st 2 a3 (vs (fun (y:Int) => (.d (.i .u8 y))) h (fun y hy => vop_ix (b:=p0) (k:=.i64) hy kr kr kr) fun y1 h => ?_)
 let a4:St:=a3.p [(9,(.d (.i .u8 y1))),(20,(.d (.i .u8 y1)))]
 refine st 1 a4 (nx (bi (so ?_)))
 let a5:St:=a4.p [(50,(.d (.i .u8 y1)))]
 refine st 1 a5 (cs h (OK_iIsPart y1) fun y2 h => ?_)
 let a6:St:=a5.p [(49,(vB y2)),(51,(vB y2))]
 refine st 1 a6 (nx ?_)
 refine cd h (fun h => ?_) fun h => ?_
 exact si (bi (loop_go (s':=stiReadToken_L0 p0 p1 y1 p1) (wr [] (es (es (es (es (es (es er_nil)))))) (bs_ (bs_ br_nil))) (OK_iReadToken_L0 p0 p1 y1 p1 _ h)))
 refine so ?_
 let a7:St:=a6.p [(85,(vB (decide (y1 = 34)))),(84,(vB (decide (y1 = 34)))),(83,(.d (.i .u8 y1)))]
 refine st 3 a7 (gp true (decide (y1 = 34)) (.d (.i .u8 y1)) (fun hc => vl) (gp true (decide (y1 = 34)) (vB (decide (y1 = 39))) (fun hc => vg hc) (vs (fun (y:Bool) => (vB y)) h (fun y hy => vop_pickV hy (p:=true) (q:=(true && ((decide (y1 = 34)) == false))) kr kr kr kr (fun _ => rfl) (fun hb => gc_f rfl hb)) fun y3 h => ?_)))
 let a8:St:=a7.p [(82,(vB y3)),(88,(vB y3)),(87,(.ite (true && ((decide (y1 = 34)) == false)) (vB (decide (y1 = 39))))),(86,(.ite (true && ((decide (y1 = 34)) == false)) (.d (.i .u8 y1))))]
 refine st 1 a8 (nx ?_)
 refine cd h (fun h => ?_) fun h => ?_
 refine so ?_
 let a9:St:=a8.p [(91,(vI p1)),(90,(vS p0))]
 refine st 2 a9 (cs h (OK_iReadQuoted p0 p1) fun y4 h => ?_)
 let a10:St:=a9.p [(12,(vB y4.2.2)),(11,(vI y4.2.1)),(10,(vS y4.1)),(95,(vB y4.2.2)),(94,(vI y4.2.1)),(93,(vS y4.1)),(89,(.tup [(vS y4.1),(vI y4.2.1),(vB y4.2.2)])),(92,(.tup [(vS y4.1),(vI y4.2.1),(vB y4.2.2)]))]
 refine st 7 a10 (nx (si (so ?_)))
 let a11:St:=a10.p [(97,(vB (!y4.2.2))),(96,(vB y4.2.2))]
 refine st 2 a11 (nx ?_)
 refine cd h (fun h => ?_) fun h => ?_
 refine so ?_
 let a12:St:=⟨(6,(vB false)) :: (5,(vI 0)) :: (98,(vGToken (GToken.mk 0 [] 0))) :: a11.env, [(7, bGToken (GToken.mk 0 [] p1)),(4, bGToken (GToken.mk 0 [] 0))]⟩
 refine st 4 a12 (nx (ri (tr (br (tr ?_)))))
 injection h with h; subst h
 exact retn_step (vs:=[(vGToken (GToken.mk 0 [] 0)),(vI 0),(vB false)]) kr kr
 refine ki (xi (so ?_))
 let a13:St:=a11.p [(8,(vI y4.2.1)),(99,(vI y4.2.1))]
 refine st 2 a13 (nx (so ?_))
 let a14:St:=⟨(102,(.ptr 7 1)) :: (101,(.ptr 7 0)) :: (100,(vS y4.1)) :: a13.env, [(7, bGToken (GToken.mk 2 y4.1 p1)),(4, [(vI 0),(vS []),(vI 0)])]⟩
 refine st 5 a14 (nx (so ?_))
 let a15:St:=a14.p [(104,(vB (decide (y1 = 39)))),(103,(.d (.i .u8 y1)))]
 refine st 2 a15 (nx ?_)
 refine cd h (fun h => ?_) fun h => ?_
 refine oi ?_
 let a16:St:=⟨(105,(.ptr 7 0)) :: a15.env, [(7, bGToken (GToken.mk 4 y4.1 p1)),(4, [(vI 0),(vS []),(vI 0)])]⟩
 exact st 2 a16 (ni (bn (next_step (s':=stiReadToken_J1 p1 y4.2.1 4 y4.1) (wr [] (es (es (es er_nil))) (bs_ (bs_ br_nil))) (OK_iReadToken_J1 p1 y4.2.1 4 y4.1 _ h))))
 exact ki (bn (next_step (s':=stiReadToken_J1 p1 y4.2.1 2 y4.1) (wr [] (es (es (es er_nil))) (bs_ (bs_ br_nil))) (OK_iReadToken_J1 p1 y4.2.1 2 y4.1 _ h)))
 refine so ?_
 let a17:St:=⟨(21,(.ptr 7 0)) :: a8.env, [(7, bGToken (GToken.mk 5 [] p1)),(4, [(vI 0),(vS []),(vI 0)])]⟩
 refine st 2 a17 (nx (si (so (callg_step ⟨[], [], [], [], [], [(2000000, 22)], [], [22], []⟩ (m:=iSigns) (S':=fun (y:(List (List UInt8))) => ⟨(22,(.osl 22 9 1 (y.map cStr))) :: a17.env, a17.bx⟩) h (OK_iSigns) kr kr kr kr (fun y => by kernel_rfl) (fun y => by kernel_rfl) ?_))))
 clear h; intro y6 h
 refine ps (vI (ln y6)) (vln (sz:=1) (l:=y6) (f:=cStr)) ?_
 let a18:St:=a17.p [(24,(vI 0)),(23,(vI (ln y6))),(22,(.osl 22 9 1 (y6.map cStr)))]
 refine st 1 a18 (nx (bi ?_))
 exact loop_go (s':=stiReadToken_L2 p0 p1 y6 0 []) (wr [(22, .old 22)] (es (es (es (es (es (eo 22 (es (es er_nil)))))))) (bs_ (bs_ br_nil))) (OK_iReadToken_L2 p0 p1 y6 0 [] _ h)
theorem OK_gStrings_Index (p0:(List UInt8)) (p1:(List UInt8)):FOk Tryz.prog 64 [(vS p0),(vS p1)] (fun y => (vI y)) (gStrings_Index p0 p1):=by
 intro r h
 rw [gStrings_Index] at h
 exact acalls_index (ρ:=sh143_ren) sh143 kr kr (.tail _ (.head _)) p0 p1 r h
theorem OK_gStrings_IndexByte (p0:(List UInt8)) (p1:Int):FOk Tryz.prog 62 [(vS p0),(.d (.i .u8 p1))] (fun y => (vI y)) (gStrings_IndexByte p0 p1):=by
 intro r h
 rw [gStrings_IndexByte] at h
 injection h with h
 subst h
 exact acalls_indexByte (ρ:=sh137_ren) sh137 kr p0 p1
theorem OKs_iSkip_L0 (p0:(List UInt8)):(∀ (x1:Int) (r:Int × Bool), iSkip_L0 p0 x1 = some r → avc Tryz.prog aciSkip_L0 (qiSkip_1 r) (stiSkip_L0 p0 x1)):=by
 refine iSkip_L0.partial_correctness p0 (fun x1 r => avc Tryz.prog aciSkip_L0 (qiSkip_1 r) (stiSkip_L0 p0 x1)) ?_
 · intro F_iSkip_L0 OK_iSkip_L0 x1 r h
   delta aciSkip_L0
   refine loop_unroll (si (so ?_))
   let a1:St:=(stiSkip_L0 p0 x1).p [(12,(vB (decide (x1 < (ln p0))))),(11,(vI (ln p0))),(10,(vS p0)),(9,(vI x1))]
   refine st 4 a1 (nx ?_)
   refine cd h (fun h => ?_) fun h => ?_
   refine ki (xi (bi (so ?_)))
   let a2:St:=a1.p [(14,(vI x1)),(13,(vS p0))]
   refine st 2 a2 (vs (fun (y:(List UInt8)) => (vS y)) h (fun y hy => vop_sls (b:=p0) (lo:=x1) (hi:=(ln p0)) hy kr kr rfl ⟨kr, .i64, kr⟩) fun y1 h => ?_)
   let a3:St:=a2.p [(6,(vS y1)),(15,(vS y1))]
   refine st 1 a3 (nx (bi (so ?_)))
   let a4:St:=a3.p [(19,(vI x1)),(18,(vS p0))]
   refine st 2 a4 (vs (fun (y:Int) => (.d (.i .u8 y))) h (fun y hy => vop_ix (b:=p0) (k:=.i64) hy kr kr kr) fun y2 h => (cs h (OK_gStrings_IndexByte [32, 9, 10, 13] y2) fun y3 h => ?_))
   let a5:St:=a4.p [(17,(vB (decide (0 ≤ y3)))),(22,(vB (decide (0 ≤ y3)))),(21,(vI y3)),(20,(.d (.i .u8 y2)))]
   refine st 2 a5 (nx ?_)
   refine cd h (fun h => ?_) fun h => ?_
   refine oi ?_
   let a6:St:=a5.p [(1,(vI (IntKind.wrap .i64 (x1 + 1)))),(24,(vI (IntKind.wrap .i64 (x1 + 1)))),(23,(vI x1))]
   exact st 3 a6 (ni (bn (bn (loop_back (s':=stiSkip_L0 p0 (IntKind.wrap .i64 (x1 + 1))) (wr [] (es (es er_nil)) br_nil) (OK_iSkip_L0 (IntKind.wrap .i64 (x1 + 1)) _ h)))))
   refine so ?_
   let a7:St:=a5.p [(26,(vS y1))]
   refine st 1 a7 (cs h (OK_gStrings_HasPrefix y1 [45, 45]) fun y4 h => ?_)
   let a8:St:=a7.p [(25,(vB y4)),(27,(vB y4))]
   refine st 1 a8 (nx ?_)
   refine cd h (fun h => ?_) fun h => ?_
   refine so ?_
   let a9:St:=a8.p [(28,(vS y1))]
   refine st 1 a9 (cs h (OK_gStrings_IndexByte y1 10) fun y5 h => ?_)
   let a10:St:=a9.p [(7,(vI y5)),(29,(vI y5))]
   refine st 1 a10 (nx (si (so ?_)))
   let a11:St:=a10.p [(31,(vB (decide (y5 < 0)))),(30,(vI y5))]
   refine st 2 a11 (nx ?_)
   refine cd h (fun h => ?_) fun h => ?_
   refine so ?_
   let a12:St:=a11.p [(5,(vB true)),(4,(vI (ln p0))),(33,(vI (ln p0))),(32,(vS p0))]
   refine st 4 a12 (nx (ri (tr (br (br (tr (br (tr ?_))))))))
   injection h with h; subst h
   exact retn_step (vs:=[(vI (ln p0)),(vB true)]) kr kr
   refine ki (xi (oi ?_))
   let a13:St:=a11.p [(1,(vI (IntKind.wrap .i64 (x1 + (IntKind.wrap .i64 (y5 + 1)))))),(37,(vI (IntKind.wrap .i64 (x1 + (IntKind.wrap .i64 (y5 + 1)))))),(36,(vI (IntKind.wrap .i64 (y5 + 1)))),(35,(vI y5)),(34,(vI x1))]
   exact st 5 a13 (ni (bn (bn (loop_back (s':=stiSkip_L0 p0 (IntKind.wrap .i64 (x1 + (IntKind.wrap .i64 (y5 + 1))))) (wr [] (es (es er_nil)) br_nil) (OK_iSkip_L0 (IntKind.wrap .i64 (x1 + (IntKind.wrap .i64 (y5 + 1)))) _ h)))))
   refine so ?_
   let a14:St:=a8.p [(39,(vS y1))]
   refine st 1 a14 (cs h (OK_gStrings_HasPrefix y1 [47, 42]) fun y6 h => ?_)
   let a15:St:=a14.p [(38,(vB y6)),(40,(vB y6))]
   refine st 1 a15 (nx ?_)
   refine cd h (fun h => ?_) fun h => ?_
   refine so ?_
   let a16:St:=a15.p [(41,(vS y1))]
   refine st 1 a16 (vs (fun (y:(List UInt8)) => (vS y)) h (fun y hy => vop_sls (b:=y1) (lo:=2) (hi:=(ln y1)) hy kr kr rfl ⟨kr, .i64, kr⟩) fun y7 h => (cs h (OK_gStrings_Index y7 [42, 47]) fun y8 h => ?_))
   let a17:St:=a16.p [(8,(vI y8)),(43,(vI y8)),(42,(vS y7))]
   refine st 1 a17 (nx (si (so ?_)))
   let a18:St:=a17.p [(45,(vB (decide (y8 < 0)))),(44,(vI y8))]
   refine st 2 a18 (nx ?_)
   refine cd h (fun h => ?_) fun h => ?_
   refine so ?_
   let a19:St:=a18.p [(5,(vB false)),(4,(vI x1)),(46,(vI x1))]
   refine st 3 a19 (nx (ri (tr (br (br (tr (br (tr ?_))))))))
   injection h with h; subst h
   exact retn_step (vs:=[(vI x1),(vB false)]) kr kr
   refine ki (xi (oi ?_))
   let a20:St:=a18.p [(1,(vI (IntKind.wrap .i64 (x1 + (IntKind.wrap .i64 (y8 + 4)))))),(50,(vI (IntKind.wrap .i64 (x1 + (IntKind.wrap .i64 (y8 + 4)))))),(49,(vI (IntKind.wrap .i64 (y8 + 4)))),(48,(vI y8)),(47,(vI x1))]
   exact st 5 a20 (ni (bn (bn (loop_back (s':=stiSkip_L0 p0 (IntKind.wrap .i64 (x1 + (IntKind.wrap .i64 (y8 + 4))))) (wr [] (es (es er_nil)) br_nil) (OK_iSkip_L0 (IntKind.wrap .i64 (x1 + (IntKind.wrap .i64 (y8 + 4)))) _ h)))))
   refine so ?_
   let a21:St:=a15.p [(5,(vB true)),(4,(vI x1)),(16,(vI x1))]
   refine st 3 a21 (nx (ri (br (br (tr (br (tr ?_)))))))
   injection h with h; subst h
   exact retn_step (vs:=[(vI x1),(vB true)]) kr kr
   refine ei (te (te (bh (xi (so ?_)))))
   let a22:St:=a1.p [(5,(vB true)),(4,(vI x1)),(51,(vI x1))]
   refine st 3 a22 (nx (ri ?_))
   injection h with h; subst h
   exact retn_step (vs:=[(vI x1),(vB true)]) kr kr
theorem OK_iSkip_L0 (p0:(List UInt8)) (x1:Int) (r:Int × Bool) (h:iSkip_L0 p0 x1 = some r):avc Tryz.prog aciSkip_L0 (qiSkip_1 r) (stiSkip_L0 p0 x1):=(OKs_iSkip_L0 p0) x1 r h
theorem OK_iSkip (p0:(List UInt8)) (p1:Int):FOk Tryz.prog 37 [(vS p0),(vI p1)] (fun y => (.tup [(vI y.1),(vB y.2)])) (iSkip p0 p1):=by
 intro r h
 rw [iSkip] at h
 refine aof triSkip ?_
 show avc Tryz.prog aciSkip (qiSkip _) ⟨[(0,(vS p0)),(1,(vI p1))], []⟩
 delta aciSkip
 refine so ?_
 let a0:St:=⟨[(5,(vB false)),(4,(vI 0)),(0,(vS p0)),(1,(vI p1))], []⟩
 exact st 2 a0 (nx (si (bi (loop_go (s':=stiSkip_L0 p0 p1) (wr [] (es (es er_nil)) br_nil) (OK_iSkip_L0 p0 p1 _ h)))))
theorem OKs_iLex_L0 (p0:(List UInt8)):(∀ (x4:(List GToken)) (x5:Int) (r:(List GToken) × Int), iLex_L0 p0 x4 x5 = some r → avc Tryz.prog aciLex_L0 (qiLex_0 r) (stiLex_L0 p0 x4 x5)):=by
 refine iLex_L0.partial_correctness p0 (fun x4 x5 r => avc Tryz.prog aciLex_L0 (qiLex_0 r) (stiLex_L0 p0 x4 x5)) ?_
 · intro F_iLex_L0 OK_iLex_L0 x4 x5 r h
   delta aciLex_L0
   refine loop_unroll (bi (so ?_))
   let a5:St:=(stiLex_L0 p0 x4 x5).p [(17,(vI x5)),(16,(vS p0))]
   refine st 2 a5 (cs h (OK_iSkip p0 x5) fun y1 h => ?_)
   let a6:St:=a5.p [(7,(vB y1.2)),(6,(vI y1.1)),(20,(vB y1.2)),(19,(vI y1.1)),(15,(.tup [(vI y1.1),(vB y1.2)])),(18,(.tup [(vI y1.1),(vB y1.2)]))]
   refine st 5 a6 (nx (si (so ?_)))
   let a7:St:=a6.p [(22,(vB (!y1.2))),(21,(vB y1.2))]
   refine st 2 a7 (nx ?_)
   refine cd h (fun h => ?_) fun h => ?_
   refine so ?_
   let a8:St:=a7.p [(3,(vI y1.1)),(2,(.nil 3)),(23,(vI y1.1))]
   refine st 3 a8 (nx (ret_wk (s':=⟨[(2,(.osl 2000000 53 3 (([]:List GToken).map cGToken))),(3,(vI y1.1))], []⟩) (wr [(2000000, .new 53 3)] (en (es er_nil)) br_nil) (tr (br (tr (br ?_))))))
   injection h with h; subst h
   exact retn_step (vs:=[(.osl 2000000 53 3 (([]:List GToken).map cGToken)),(vI y1.1)]) kr ⟨by kernel_rfl, trivial⟩
   refine ki (xi (si (so ?_)))
   let a9:St:=a7.p [(27,(vB (decide (y1.1 = (ln p0))))),(26,(vI (ln p0))),(25,(vS p0)),(24,(vI y1.1))]
   refine st 4 a9 (nx ?_)
   refine cd h (fun h => ?_) fun h => ?_
   refine so ?_
   let a10:St:=⟨[(3,(vI (-1))),(2,(.osl 2 53 3 (x4.map cGToken))),(28,(.d (.sl 3 (x4.map cGToken)))),(27,(vB (decide (y1.1 = (ln p0))))),(26,(vI (ln p0))),(25,(vS p0)),(24,(vI y1.1)),(22,(vB (!y1.2))),(21,(vB y1.2)),(7,(vB y1.2)),(6,(vI y1.1)),(20,(vB y1.2)),(19,(vI y1.1)),(15,(.tup [(vI y1.1),(vB y1.2)])),(18,(.tup [(vI y1.1),(vB y1.2)])),(17,(vI x5)),(16,(vS p0)),(0,(vS p0)),(4,(.d (.sl 3 (x4.map cGToken)))),(5,(vI x5))], []⟩
   refine st 3 a10 (nx (ret_wk (s':=⟨[(2,(.osl 2000000 53 3 (x4.map cGToken))),(3,(vI (-1)))], []⟩) (wr [(2000000, .old 2)] (eo 2 (es er_nil)) br_nil) (tr (br (tr (br ?_))))))
   injection h with h; subst h
   exact retn_step (vs:=[(.osl 2000000 53 3 (x4.map cGToken)),(vI (-1))]) kr ⟨by kernel_rfl, trivial⟩
   refine ki (xi (so ?_))
   let a11:St:=a9.p [(31,(vI y1.1)),(30,(vS p0))]
   refine st 2 a11 (cs h (OK_iReadToken p0 y1.1) fun y2 h => ?_)
   let a12:St:=⟨(10,(vB y2.2.2)) :: (9,(vI y2.2.1)) :: (8,(.ptr 8 0)) :: (35,(vB y2.2.2)) :: (34,(vI y2.2.1)) :: (33,(vGToken y2.1)) :: (29,(.tup [(vGToken y2.1),(vI y2.2.1),(vB y2.2.2)])) :: (32,(.tup [(vGToken y2.1),(vI y2.2.1),(vB y2.2.2)])) :: a11.env, [(8, bGToken y2.1)]⟩
   refine st 8 a12 (nx (si (so ?_)))
   let a13:St:=a12.p [(37,(vB (!y2.2.2))),(36,(vB y2.2.2))]
   refine st 2 a13 (nx ?_)
   refine cd h (fun h => ?_) fun h => ?_
   refine so ?_
   let a14:St:=a13.p [(3,(vI y1.1)),(2,(.nil 3)),(38,(vI y1.1))]
   refine st 3 a14 (nx (ret_wk (s':=⟨[(2,(.osl 2000000 53 3 (([]:List GToken).map cGToken))),(3,(vI y1.1))], []⟩) (wr [(2000000, .new 53 3)] (en (es er_nil)) br_nil) (tr (br (tr (br ?_))))))
   injection h with h; subst h
   exact retn_step (vs:=[(.osl 2000000 53 3 (([]:List GToken).map cGToken)),(vI y1.1)]) kr ⟨by kernel_rfl, trivial⟩
   refine ki (xi (so ?_))
   let a15:St:=a13.p [(40,(vGToken y2.1)),(39,(.osl 4 53 3 (x4.map cGToken)))]
   refine st 2 a15 (bsl_step (l:=([y2.1]:List GToken)) (f:=cGToken) (g:=cGToken) kr (fun _ => rfl) kr ?_)
   refine app_step (t:=4) (l:=x4) (m:=([y2.1]:List GToken)) (f:=cGToken) (S':=fun y => ⟨[(42,(.osl 42 53 3 (y.map cGToken))),(41,(.osl 41 53 3 (([y2.1]:List GToken).map cGToken))),(40,(vGToken y2.1)),(39,(.d (.sl 3 (x4.map cGToken)))),(37,(vB (!y2.2.2))),(36,(vB y2.2.2)),(10,(vB y2.2.2)),(9,(vI y2.2.1)),(8,(.ptr 8 0)),(35,(vB y2.2.2)),(34,(vI y2.2.1)),(33,(vGToken y2.1)),(29,(.tup [(vGToken y2.1),(vI y2.2.1),(vB y2.2.2)])),(32,(.tup [(vGToken y2.1),(vI y2.2.1),(vB y2.2.2)])),(31,(vI y1.1)),(30,(vS p0)),(27,(vB (decide (y1.1 = (ln p0))))),(26,(vI (ln p0))),(25,(vS p0)),(24,(vI y1.1)),(22,(vB (!y1.2))),(21,(vB y1.2)),(7,(vB y1.2)),(6,(vI y1.1)),(20,(vB y1.2)),(19,(vI y1.1)),(15,(.tup [(vI y1.1),(vB y1.2)])),(18,(.tup [(vI y1.1),(vB y1.2)])),(17,(vI x5)),(16,(vS p0)),(0,(vS p0)),(4,(.d (.sl 3 (x4.map cGToken)))),(5,(vI x5))], [(8, bGToken y2.1)]⟩) h kr kr kr kr (fun y => by kernel_rfl) ?_
   clear h; intro y3 h
   let a16:St:=⟨[(4,(.osl 4 53 3 (y3.map cGToken))),(42,(.d (.sl 3 (y3.map cGToken)))),(41,(.osl 41 53 3 (([y2.1]:List GToken).map cGToken))),(40,(vGToken y2.1)),(39,(.d (.sl 3 (x4.map cGToken)))),(37,(vB (!y2.2.2))),(36,(vB y2.2.2)),(10,(vB y2.2.2)),(9,(vI y2.2.1)),(8,(.ptr 8 0)),(35,(vB y2.2.2)),(34,(vI y2.2.1)),(33,(vGToken y2.1)),(29,(.tup [(vGToken y2.1),(vI y2.2.1),(vB y2.2.2)])),(32,(.tup [(vGToken y2.1),(vI y2.2.1),(vB y2.2.2)])),(31,(vI y1.1)),(30,(vS p0)),(27,(vB (decide (y1.1 = (ln p0))))),(26,(vI (ln p0))),(25,(vS p0)),(24,(vI y1.1)),(22,(vB (!y1.2))),(21,(vB y1.2)),(7,(vB y1.2)),(6,(vI y1.1)),(20,(vB y1.2)),(19,(vI y1.1)),(15,(.tup [(vI y1.1),(vB y1.2)])),(18,(.tup [(vI y1.1),(vB y1.2)])),(17,(vI x5)),(16,(vS p0)),(0,(vS p0)),(4,(.d (.sl 3 (x4.map cGToken)))),(5,(vI x5))], [(8, bGToken y2.1)]⟩
   refine st 1 a16 (nx (oi ?_))
   let a17:St:=a16.p [(5,(vI y2.2.1)),(43,(vI y2.2.1))]
   exact st 2 a17 (ni (bn (loop_back (s':=stiLex_L0 p0 y3 y2.2.1) (wr [(4, .old 4)] (es (eo 4 (es er_nil))) br_nil) (OK_iLex_L0 y3 y2.2.1 _ h))))
theorem OK_iLex_L0 (p0:(List UInt8)) (x4:(List GToken)) (x5:Int) (r:(List GToken) × Int) (h:iLex_L0 p0 x4 x5 = some r):avc Tryz.prog aciLex_L0 (qiLex_0 r) (stiLex_L0 p0 x4 x5):=(OKs_iLex_L0 p0) x4 x5 r h
theorem OK_iLex (p0:(List UInt8)):FOkB Tryz.prog 18 [(vS p0)] [] (fun (y:(List GToken) × Int) => (.tup [(.osl 2000000 53 3 (y.1.map cGToken)),(vI y.2)])) (fun (y:(List GToken) × Int) => []) (iLex p0):=by
 intro r h
 rw [iLex] at h
 refine aof triLex ?_
 show avc Tryz.prog aciLex (qiLex _) ⟨[(0,(vS p0))], []⟩
 delta aciLex
 refine so ?_
 let a0:St:=⟨[(3,(vI 0)),(2,(.nil 3)),(0,(vS p0))], []⟩
 refine st 2 a0 (nx (si (so ?_)))
 let a1:St:=a0.p [(13,(vB (decide (2000 < (ln p0))))),(12,(vI (ln p0))),(11,(vS p0))]
 refine st 3 a1 (nx ?_)
 refine cd h (fun h => ?_) fun h => ?_
 refine so ?_
 let a2:St:=a1.p [(3,(vI 2000)),(2,(.nil 3))]
 refine st 2 a2 (nx (ret_wk (s':=⟨[(2,(.osl 2000000 53 3 (([]:List GToken).map cGToken))),(3,(vI 2000))], []⟩) (wr [(2000000, .new 53 3)] (en (es er_nil)) br_nil) (tr ?_)))
 injection h with h; subst h
 exact retn_step (vs:=[(.osl 2000000 53 3 (([]:List GToken).map cGToken)),(vI 2000)]) kr ⟨by kernel_rfl, trivial⟩
 refine ki (xi (so (bsl_step (l:=([]:List GToken)) (f:=cGToken) (g:=cGToken) kr (fun _ => rfl) kr ?_)))
 let a3:St:=a1.p [(4,(.osl 4 53 3 (([]:List GToken).map cGToken))),(14,(.d (.sl 3 (([]:List GToken).map cGToken))))]
 refine st 1 a3 (nx (so ?_))
 let a4:St:=a3.p [(5,(vI 0))]
 exact st 1 a4 (nx (bi (loop_go (s':=stiLex_L0 p0 ([]:List GToken) 0) (wr [(4, .old 4)] (es (eo 4 (es er_nil))) br_nil) (OK_iLex_L0 p0 ([]:List GToken) 0 _ h))))
theorem OK_gStrings_Builder_Len_x (c0_1:(List Int)):FOkB Tryz.prog 54 [(.ptr 1000000 0)] [(1000000, [(.bp 1000000 74),(.osl 6000001 5 1 (c0_1.map cU8))])] (fun (y:Int) => (vI y)) (fun (y:Int) => [(1000000, [(.bp 1000000 74),(.osl 6000001 5 1 (c0_1.map cU8))])]) (gStrings_Builder_Len_x c0_1):=by
 intro r h
 rw [gStrings_Builder_Len_x] at h
 refine acalls_of_fn trgStrings_Builder_Len_x (Nat.le_of_ble_eq_true rfl) (by intro n hn; simp at hn; simp only [NX]; omega) ?_
 show avc Tryz.prog acgStrings_Builder_Len_x (qgStrings_Builder_Len_x c0_1 _) ⟨[(0,(.ptr 1000000 0))], [(1000000, [(.bp 1000000 74),(.osl 6000001 5 1 (c0_1.map cU8))])]⟩
 delta acgStrings_Builder_Len_x
 refine so ?_
 let a0:St:=⟨[(2,(vI 0)),(0,(.ptr 1000000 0))], [(1000000, [(.bp 1000000 74),(.osl 6000001 5 1 (c0_1.map cU8))])]⟩
 refine st 1 a0 (nx (so ?_))
 let a1:St:=a0.p [(6,(.osl 6000001 5 1 (c0_1.map cU8))),(5,(.ptr 1000000 1)),(4,(.ptr 1000000 0)),(3,(.ptr 1000000 0))]
 refine st 4 a1 (ps (vI (ln c0_1)) (vln (sz:=1) (l:=c0_1) (f:=cU8)) ?_)
 let a2:St:=a1.p [(2,(vI (ln c0_1))),(7,(vI (ln c0_1)))]
 refine st 1 a2 (nx ?_)
 refine ret_wk (s':=⟨[(2,(vI (ln c0_1)))], [(1000000, [(.bp 1000000 74),(.osl 6000001 5 1 (c0_1.map cU8))])]⟩) (wr [(6000001, .old 6000001)] (es er_nil) (br_cons (c0:=[(.bp 1000000 74),(.osl 6000001 5 1 (c0_1.map cU8))]) kr (vrs_cons (vr_same kr kr) (vrs_cons (vr_old (t:=6000001) kr kr) (vrs_nil))) br_nil)) ?_
 injection h with h; subst h
 exact ret1_step (v:=(vI (ln c0_1))) kr kr ⟨by kernel_rfl, by kernel_rfl, trivial⟩
theorem OK_gStrings_Builder_String_x (c0_1:(List Int)):FOkB Tryz.prog 55 [(.ptr 1000000 0)] [(1000000, [(.bp 1000000 74),(.osl 6000001 5 1 (c0_1.map cU8))])] (fun (y:(List UInt8) × (List Int)) => (vS y.1)) (fun (y:(List UInt8) × (List Int)) => [(1000000, [(.bp 1000000 74),(.d (.sl 1 (y.2.map cU8)))])]) (gStrings_Builder_String_x c0_1):=by
 intro r h
 rw [gStrings_Builder_String_x] at h
 obtain ⟨y, hy, h⟩:=Option.bind_eq_some_iff.1 h
 injection h with h
 subst h
 exact acalls_bstr 1000000 6000001 c0_1 y hy (bstr_of 74 bstr_row_55 bstr_nil_55 bstr_noroom_55 bstr_room_55)
theorem OK_gStrings_Builder_copyCheck_x (c0_1:(List Int)):FOkB Tryz.prog 103 [(.ptr 1000000 0)] [(1000000, [(.bp 1000000 74),(.osl 6000001 5 1 (c0_1.map cU8))])] (fun (y:Unit) => (.tup [])) (fun (y:Unit) => [(1000000, [(.bp 1000000 74),(.osl 6000001 5 1 (c0_1.map cU8))])]) (gStrings_Builder_copyCheck_x c0_1):=by
 intro r _
 exact acalls_cc 1000000 [.osl 6000001 5 1 (c0_1.map cU8)] cc_used_103 cc_fresh_103_74 rfl
theorem OK_gStrings_Builder_WriteString_x (c0_1:(List Int)) (p1:(List UInt8)):FOkB Tryz.prog 52 [(.ptr 1000000 0),(vS p1)] [(1000000, [(.bp 1000000 74),(.osl 6000001 5 1 (c0_1.map cU8))])] (fun (y:Int × (List Int)) => (.tup [(vI y.1), .top])) (fun (y:Int × (List Int)) => [(1000000, [(.bp 1000000 74),(.osl 6000001 5 1 (y.2.map cU8))])]) (gStrings_Builder_WriteString_x c0_1 p1):=by
 intro r h
 rw [gStrings_Builder_WriteString_x] at h
 refine acalls_of_fn trgStrings_Builder_WriteString_x (Nat.le_of_ble_eq_true rfl) (by intro n hn; simp at hn; simp only [NX]; omega) ?_
 show avc Tryz.prog acgStrings_Builder_WriteString_x (qgStrings_Builder_WriteString_x _) ⟨[(0,(.ptr 1000000 0)),(1,(vS p1))], [(1000000, [(.bp 1000000 74),(.osl 6000001 5 1 (c0_1.map cU8))])]⟩
 delta acgStrings_Builder_WriteString_x
 refine so ?_
 let a0:St:=⟨[(5, .top),(4,(vI 0)),(0,(.ptr 1000000 0)),(1,(vS p1))], [(1000000, [(.bp 1000000 74),(.osl 6000001 5 1 (c0_1.map cU8))])]⟩
 refine st 2 a0 (nx (so ?_))
 let a1:St:=a0.p [(6,(.ptr 1000000 0))]
 refine st 1 a1 ?_
 refine callg_step ⟨[(1000000, 1000000)], [(6000001, 6000001)], [], [], [], [(6000001, 6000001)], [], [6000001], []⟩ (m:=gStrings_Builder_copyCheck_x c0_1) (S':=fun (y:Unit) => ⟨(7,(.tup [])) :: a1.env, [(1000000, [(.bp 1000000 74),(.osl 6000001 5 1 (c0_1.map cU8))])]⟩) h (OK_gStrings_Builder_copyCheck_x c0_1) kr kr kr kr (fun y => by kernel_rfl) (fun y => by kernel_rfl) ?_
 clear h; intro y1 h
 refine nx (so ?_)
 let a2:St:=⟨(13,(vS p1)) :: (12,(.osl 6000001 5 1 (c0_1.map cU8))) :: (11,(.ptr 1000000 1)) :: (10,(.ptr 1000000 0)) :: (9,(.ptr 1000000 0)) :: (8,(.ptr 1000000 0)) :: (7,(.tup [])) :: a1.env, [(1000000, [(.bp 1000000 74),(.osl 6000001 5 1 (c0_1.map cU8))])]⟩
 refine st 6 a2 ?_
 refine app_step (t:=6000001) (l:=c0_1) (m:=(toBytes p1)) (f:=cU8) (S':=fun y => ⟨[(14,(.osl 14 5 1 (y.map cU8))),(13,(vS p1)),(12,(.d (.sl 1 (c0_1.map cU8)))),(11,(.ptr 1000000 1)),(10,(.ptr 1000000 0)),(9,(.ptr 1000000 0)),(8,(.ptr 1000000 0)),(7,(.tup [])),(6,(.ptr 1000000 0)),(5, .top),(4,(vI 0)),(0,(.ptr 1000000 0)),(1,(vS p1))], [(1000000, [(.bp 1000000 74),(.d (.sl 1 (c0_1.map cU8)))])]⟩) h kr kr kr kr (fun y => by kernel_rfl) ?_
 clear h; intro y2 h
 let a3:St:=⟨[(16,(.ptr 1000000 1)),(15,(.ptr 1000000 0)),(14,(.osl 14 5 1 (y2.map cU8))),(13,(vS p1)),(12,(.d (.sl 1 (c0_1.map cU8)))),(11,(.ptr 1000000 1)),(10,(.ptr 1000000 0)),(9,(.ptr 1000000 0)),(8,(.ptr 1000000 0)),(7,(.tup [])),(6,(.ptr 1000000 0)),(5, .top),(4,(vI 0)),(0,(.ptr 1000000 0)),(1,(vS p1))], [(1000000, [(.bp 1000000 74),(.osl 14 5 1 (y2.map cU8))])]⟩
 refine st 3 a3 (nx (so ?_))
 let a4:St:=a3.p [(5, .top),(4,(vI (ln p1))),(18,(vI (ln p1))),(17,(vS p1))]
 refine st 4 a4 (nx ?_)
 refine ret_wk (s':=⟨[(4,(vI (ln p1))),(5, .top)], [(1000000, [(.bp 1000000 74),(.osl 6000001 5 1 (y2.map cU8))])]⟩) (wr [(6000001, .old 14)] (es (es er_nil)) (br_cons (c0:=[(.bp 1000000 74),(.osl 14 5 1 (y2.map cU8))]) kr (vrs_cons (vr_same kr kr) (vrs_cons (vr_old (t:=14) kr kr) (vrs_nil))) br_nil)) ?_
 injection h with h; subst h
 exact retn_step (vs:=[(vI (ln p1)), .top]) kr ⟨by kernel_rfl, by kernel_rfl, trivial⟩
theorem OKs_iPlainName_L0 (p0:(List UInt8)):(∀ (x19:Int) (r:Bool), iPlainName_L0 p0 x19 = some r → avc Tryz.prog aciPlainName_L0 (qiPlainName_1 r) (stiPlainName_L0 p0 x19)):=by
 refine iPlainName_L0.partial_correctness p0 (fun x19 r => avc Tryz.prog aciPlainName_L0 (qiPlainName_1 r) (stiPlainName_L0 p0 x19)) ?_
 · intro F_iPlainName_L0 OK_iPlainName_L0 x19 r h
   delta aciPlainName_L0
   refine loop_unroll (so ?_)
   let a6:St:=(stiPlainName_L0 p0 x19).p [(20,(vB (decide (x19 < (ln p0)))))]
   refine st 1 a6 (nx (si ?_))
   refine cd h (fun h => ?_) fun h => ?_
   refine ki (xi (si (bi (so ?_))))
   let a7:St:=a6.p [(3,(vI x19)),(21,(vI x19))]
   refine st 2 a7 (nx (so ?_))
   let a8:St:=a7.p [(23,(vI x19)),(22,(vS p0))]
   refine st 2 a8 (vs (fun (y:Int) => (.d (.i .u8 y))) h (fun y hy => vop_ix (b:=p0) (k:=.i64) hy kr kr kr) fun y7 h => (cs h (OK_iIsPart y7) fun y8 h => ?_))
   let a9:St:=a8.p [(26,(vB (!y8))),(25,(vB y8)),(24,(.d (.i .u8 y7)))]
   refine st 1 a9 (nx ?_)
   refine cd h (fun h => ?_) fun h => ?_
   refine so ?_
   let a10:St:=a9.p [(2,(vB false))]
   refine st 1 a10 (nx (ri (br (tr (tr (br (tr ?_)))))))
   injection h with h; subst h
   exact r1 (v:=(vB false))
   refine ki (bn (xi (oi ?_)))
   let a11:St:=a9.p [(19,(vI (IntKind.wrap .i64 (x19 + 1)))),(27,(vI (IntKind.wrap .i64 (x19 + 1))))]
   exact st 2 a11 (ni (loop_back (s':=stiPlainName_L0 p0 (IntKind.wrap .i64 (x19 + 1))) (wr [] (es (es (es er_nil))) br_nil) (OK_iPlainName_L0 (IntKind.wrap .i64 (x19 + 1)) _ h)))
   refine ei (te (te (bh (xi (so ?_)))))
   let a12:St:=a6.p [(2,(vB true))]
   refine st 1 a12 (nx (ri ?_))
   injection h with h; subst h
   exact r1 (v:=(vB true))
theorem OK_iPlainName_L0 (p0:(List UInt8)) (x19:Int) (r:Bool) (h:iPlainName_L0 p0 x19 = some r):avc Tryz.prog aciPlainName_L0 (qiPlainName_1 r) (stiPlainName_L0 p0 x19):=(OKs_iPlainName_L0 p0) x19 r h
theorem OK_iPlainName (p0:(List UInt8)):FOk Tryz.prog 106 [(vS p0)] (fun y => (vB y)) (iPlainName p0):=by
 intro r h
 rw [iPlainName] at h
 refine aof triPlainName ?_
 show avc Tryz.prog aciPlainName (qiPlainName _) ⟨[(0,(vS p0))], []⟩
 delta aciPlainName
 refine so ?_
 let a0:St:=⟨[(2,(vB false)),(0,(vS p0))], []⟩
 refine st 1 a0 (nx (si (so ?_)))
 let a1:St:=a0.p [(4,(vS p0))]
 refine st 1 a1 (cs h (OK_iNameOk p0) fun y1 h => ?_)
 let a2:St:=a1.p [(7,(vB (!y1))),(6,(vB (!y1))),(5,(vB y1))]
 refine st 2 a2 (gp true (!y1) (vS p0) (fun hc => vl) (gv true (!y1) (fun (y:Int) => (.d (.i .u8 y))) h (fun y hy hc => vop_ix (b:=p0) (k:=.i64) hy (Eq.trans (b:=([(true && ((!y1) == false))]:List Bool).all id) kr (all_c hc rfl)) kr kr) fun y2 h => ?_))
 refine gcall_step (p:=true) (b:=(!y1)) (m:=iIsDigit y2) (dflt:=default) (args:=[(.d (.i .u8 y2))]) (v':=(fun y => (vB y))) h kr (OK_iIsDigit y2) (fun hc => by kernel_rfl) kr (fun _ => rfl) (fun hc => (Eq.trans (b:=([(true && ((!y1) == false))]:List Bool).all id) kr (all_c hc rfl))) ?_
 clear h; intro y3 h
 refine vs (fun (y:Bool) => (vB y)) h (fun y hy => vop_pickV hy (p:=true) (q:=(true && ((!y1) == false))) kr kr kr kr (fun _ => rfl) (fun hb => gc_f rfl hb)) fun y4 h => ?_
 let a3:St:=a2.p [(12,(vB y4)),(11,(vB y4)),(10,(.ite (true && ((!y1) == false)) (vB y3))),(9,(.ite (true && ((!y1) == false)) (.d (.i .u8 y2)))),(8,(.ite (true && ((!y1) == false)) (vS p0)))]
 refine st 1 a3 (gp true y4 (vS p0) (fun hc => vl) (gcall_step (p:=true) (b:=y4) (m:=iKeyOf p0) (dflt:=default) (args:=[(vS p0)]) (v':=(fun y => (vI y))) h kr (OK_iKeyOf p0) (fun hc => by kernel_rfl) kr (fun _ => rfl) (fun hc => (Eq.trans (b:=([(true && (y4 == false))]:List Bool).all id) kr (all_c hc rfl))) ?_))
 clear h; intro y5 h
 refine gp true y4 (vB (!decide (y5 = 0))) (fun hc => vg hc) (vs (fun (y:Bool) => (vB y)) h (fun y hy => vop_pickV hy (p:=true) (q:=(true && (y4 == false))) kr kr kr kr (fun _ => rfl) (fun hb => gc_f rfl hb)) fun y6 h => (nx ?_))
 refine cd h (fun h => ?_) fun h => ?_
 refine so ?_
 let a4:St:=a3.p [(2,(vB false)),(16,(vB y6)),(15,(.ite (gF y4) (vB (!decide (y5 = 0))))),(14,(.ite (gF y4) (vI y5))),(13,(.ite (gF y4) (vS p0)))]
 refine st 1 a4 (nx (ri (tr ?_)))
 injection h with h; subst h
 exact r1 (v:=(vB false))
 refine ki (xi (si (so ?_)))
 let a5:St:=a3.p [(19,(vI 0)),(18,(vI (ln p0))),(17,(vS p0)),(16,(vB y6)),(15,(.ite (gF y4) (vB (!decide (y5 = 0))))),(14,(.ite (gF y4) (vI y5))),(13,(.ite (gF y4) (vS p0)))]
 exact st 3 a5 (nx (bi (loop_go (s':=stiPlainName_L0 p0 0) (wr [] (es (es (es er_nil))) br_nil) (OK_iPlainName_L0 p0 0 _ h))))
theorem OK_gStrings_ReplaceAll (p0:(List UInt8)) (p1:(List UInt8)) (p2:(List UInt8)):FOk Tryz.prog 153 [(vS p0),(vS p1),(vS p2)] (fun y => (vS y)) (gStrings_ReplaceAll p0 p1 p2):=by
 intro r h
 rw [gStrings_ReplaceAll] at h
 exact acalls_repl (ρ:=sh155_ren) sh155 sh155_X kr kr (.tail _ (.head _)) p0 p1 p2 r h
theorem OK_iQuoted (p0:(List UInt8)) (p1:(List UInt8)):FOk Tryz.prog 138 [(vS p0),(vS p1)] (fun y => (vS y)) (iQuoted p0 p1):=by
 intro r h
 rw [iQuoted] at h
 refine aof triQuoted ?_
 show avc Tryz.prog aciQuoted (qiQuoted _) ⟨[(0,(vS p0)),(1,(vS p1))], []⟩
 delta aciQuoted
 refine so ?_
 let a0:St:=⟨[(4,(vS [])),(0,(vS p0)),(1,(vS p1))], []⟩
 refine st 1 a0 (nx (so ?_))
 let a1:St:=a0.p [(9,(vS p1)),(8,(vS p1)),(7,(vS p1)),(6,(vS p0)),(5,(vS p1))]
 refine st 5 a1 (vs (fun (y:(List UInt8)) => (vS y)) h (fun y hy => vop_cat (a:=p1) (b:=p1) hy kr kr kr) fun y1 h => (cs h (OK_gStrings_ReplaceAll p0 p1 y1) fun y2 h => (vs (fun (y:(List UInt8)) => (vS y)) h (fun y hy => vop_cat (a:=p1) (b:=y2) hy kr kr kr) fun y3 h => ?_)))
 let a2:St:=a1.p [(13,(vS p1)),(12,(vS y3)),(11,(vS y2)),(10,(vS y1))]
 refine st 1 a2 (vs (fun (y:(List UInt8)) => (vS y)) h (fun y hy => vop_cat (a:=y3) (b:=p1) hy kr kr kr) fun y4 h => ?_)
 let a3:St:=a2.p [(4,(vS y4)),(14,(vS y4))]
 refine st 1 a3 (nx (ri ?_))
 injection h with h; subst h
 exact r1 (v:=(vS y4))
theorem OK_iNameText (p0:(List UInt8)):FOk Tryz.prog 104 [(vS p0)] (fun y => (vS y)) (iNameText p0):=by
 intro r h
 rw [iNameText] at h
 refine aof triNameText ?_
 show avc Tryz.prog aciNameText (qiNameText _) ⟨[(0,(vS p0))], []⟩
 delta aciNameText
 refine so ?_
 let a0:St:=⟨[(2,(vS [])),(0,(vS p0))], []⟩
 refine st 1 a0 (nx (si (bi (so ?_))))
 let a1:St:=a0.p [(4,(vS p0))]
 refine st 1 a1 (cs h (OK_iNameOk p0) fun y1 h => ?_)
 let a2:St:=a1.p [(3,(vB (!y1))),(6,(vB (!y1))),(5,(vB y1))]
 refine st 2 a2 (nx ?_)
 refine cd h (fun h => ?_) fun h => ?_
 refine so ?_
 let a3:St:=a2.p [(2,(vS []))]
 refine st 1 a3 (nx (ri (br (tr ?_))))
 injection h with h; subst h
 exact r1 (v:=(vS []))
 refine so ?_
 let a4:St:=a2.p [(8,(vS p0))]
 refine st 1 a4 (cs h (OK_iPlainName p0) fun y2 h => ?_)
 let a5:St:=a4.p [(7,(vB y2)),(9,(vB y2))]
 refine st 1 a5 (nx ?_)
 refine cd h (fun h => ?_) fun h => ?_
 refine so ?_
 let a6:St:=a5.p [(2,(vS p0)),(10,(vS p0))]
 refine st 2 a6 (nx (ri (br (tr ?_))))
 injection h with h; subst h
 exact r1 (v:=(vS p0))
 refine ki (bn (xi (so ?_)))
 let a7:St:=a5.p [(11,(vS p0))]
 refine st 1 a7 (cs h (OK_iQuoted p0 [34]) fun y3 h => ?_)
 let a8:St:=a7.p [(2,(vS y3)),(12,(vS y3))]
 refine st 1 a8 (nx (ri ?_))
 injection h with h; subst h
 exact r1 (v:=(vS y3))
theorem OK_iQuoteText (p0:(List UInt8)):FOk Tryz.prog 105 [(vS p0)] (fun y => (vS y)) (iQuoteText p0):=by
 intro r h
 rw [iQuoteText] at h
 refine aof triQuoteText ?_
 show avc Tryz.prog aciQuoteText (qiQuoteText _) ⟨[(0,(vS p0))], []⟩
 delta aciQuoteText
 refine so ?_
 let a0:St:=⟨[(2,(vS [])),(0,(vS p0))], []⟩
 refine st 1 a0 (nx (so ?_))
 let a1:St:=a0.p [(3,(vS p0))]
 refine st 1 a1 (cs h (OK_iQuoted p0 [39]) fun y1 h => ?_)
 let a2:St:=a1.p [(2,(vS y1)),(4,(vS y1))]
 refine st 1 a2 (nx (ri ?_))
 injection h with h; subst h
 exact r1 (v:=(vS y1))
theorem OK_iTokenText (p0:GToken):FOk Tryz.prog 53 [(vGToken p0)] (fun y => (vS y)) (iTokenText p0):=by
 intro r h
 rw [iTokenText] at h
 refine aof triTokenText ?_
 show avc Tryz.prog aciTokenText (qiTokenText _) ⟨[(0,(vGToken p0))], []⟩
 delta aciTokenText
 refine so ?_
 let a0:St:=⟨[(2,(vS [])),(1,(.ptr 1 0)),(0,(vGToken p0))], [(1, bGToken p0)]⟩
 refine st 2 a0 (nx (si (so ?_)))
 let a1:St:=a0.p [(3,(vGToken p0))]
 refine st 1 a1 (cs h (OK_iTokenOk p0) fun y1 h => ?_)
 let a2:St:=a1.p [(5,(vB (!y1))),(4,(vB y1))]
 refine st 1 a2 (nx ?_)
 refine cd h (fun h => ?_) fun h => ?_
 refine so ?_
 let a3:St:=a2.p [(2,(vS []))]
 refine st 1 a3 (nx (ri (tr ?_)))
 injection h with h; subst h
 exact r1 (v:=(vS []))
 refine ki (xi (si (so ?_)))
 let a4:St:=a2.p [(7,(vI p0.kind)),(6,(.ptr 1 0))]
 refine st 2 a4 (nx (bi (so ?_)))
 let a5:St:=a4.p [(8,(vB (decide (p0.kind = 2)))),(9,(vB (decide (p0.kind = 2))))]
 refine st 2 a5 (nx ?_)
 refine cd h (fun h => ?_) fun h => ?_
 refine so ?_
 let a6:St:=a5.p [(11,(vS p0.text)),(10,(.ptr 1 1))]
 refine st 2 a6 (cs h (OK_iNameText p0.text) fun y2 h => ?_)
 let a7:St:=a6.p [(2,(vS y2)),(12,(vS y2))]
 refine st 1 a7 (nx (ri (br (tr ?_))))
 injection h with h; subst h
 exact r1 (v:=(vS y2))
 refine so ?_
 let a8:St:=a5.p [(13,(vB (decide (p0.kind = 4)))),(14,(vB (decide (p0.kind = 4))))]
 refine st 2 a8 (nx ?_)
 refine cd h (fun h => ?_) fun h => ?_
 refine so ?_
 let a9:St:=a8.p [(16,(vS p0.text)),(15,(.ptr 1 1))]
 refine st 2 a9 (cs h (OK_iQuoteText p0.text) fun y3 h => ?_)
 let a10:St:=a9.p [(2,(vS y3)),(17,(vS y3))]
 refine st 1 a10 (nx (ri (br (tr ?_))))
 injection h with h; subst h
 exact r1 (v:=(vS y3))
 refine ki (bn (xi (so ?_)))
 let a11:St:=a8.p [(2,(vS p0.text)),(19,(vS p0.text)),(18,(.ptr 1 1))]
 refine st 3 a11 (nx (ri ?_))
 injection h with h; subst h
 exact r1 (v:=(vS p0.text))
theorem OK_iIsQuotedName (p0:GToken):FOk Tryz.prog 57 [(vGToken p0)] (fun y => (vB y)) (iIsQuotedName p0):=by
 intro r h
 rw [iIsQuotedName] at h
 refine aof triIsQuotedName ?_
 show avc Tryz.prog aciIsQuotedName (qiIsQuotedName _) ⟨[(0,(vGToken p0))], []⟩
 delta aciIsQuotedName
 refine so ?_
 let a0:St:=⟨[(2,(vB false)),(1,(.ptr 1 0)),(0,(vGToken p0))], [(1, bGToken p0)]⟩
 refine st 2 a0 (nx (so ?_))
 let a1:St:=a0.p [(6,(vB (decide (p0.kind = 2)))),(5,(vB (decide (p0.kind = 2)))),(4,(vI p0.kind)),(3,(.ptr 1 0))]
 refine st 4 a1 (gp true (decide (p0.kind = 2)) (.ptr 1 1) (fun hc => vl) (gp true (decide (p0.kind = 2)) (vS p0.text) (fun hc => vg hc) ?_))
 refine gcall_step (p:=true) (b:=(decide (p0.kind = 2))) (m:=iPlainName p0.text) (dflt:=default) (args:=[(vS p0.text)]) (v':=(fun y => (vB y))) h kr (OK_iPlainName p0.text) (fun hc => by kernel_rfl) kr (fun _ => rfl) (fun hc => (Eq.trans (b:=([(true && ((decide (p0.kind = 2)) == true))]:List Bool).all id) kr (all_c hc rfl))) ?_
 clear h; intro y1 h
 refine gp true (decide (p0.kind = 2)) (vB (!y1)) (fun hc => vg hc) (vs (fun (y:Bool) => (vB y)) h (fun y hy => vop_pickV hy (p:=(true && ((decide (p0.kind = 2)) == true))) (q:=true) kr kr kr kr (fun hb => gc_t rfl hb) (fun _ => rfl)) fun y2 h => ?_)
 let a2:St:=a1.p [(2,(vB y2)),(11,(vB y2)),(10,(.ite (true && ((decide (p0.kind = 2)) == true)) (vB (!y1)))),(9,(.ite (true && ((decide (p0.kind = 2)) == true)) (vB y1))),(8,(.ite (true && ((decide (p0.kind = 2)) == true)) (vS p0.text))),(7,(.ite (true && ((decide (p0.kind = 2)) == true)) (.ptr 1 1)))]
 refine st 1 a2 (nx (ri ?_))
 injection h with h; subst h
 exact r1 (v:=(vB y2))
theorem OK_iIsWord (p0:GToken):FOk Tryz.prog 56 [(vGToken p0)] (fun y => (vB y)) (iIsWord p0):=by
 intro r h
 rw [iIsWord] at h
 refine aof triIsWord ?_
 show avc Tryz.prog aciIsWord (qiIsWord _) ⟨[(0,(vGToken p0))], []⟩
 delta aciIsWord
 refine so ?_
 let a0:St:=⟨[(2,(vB false)),(1,(.ptr 1 0)),(0,(vGToken p0))], [(1, bGToken p0)]⟩
 refine st 2 a0 (nx (so ?_))
 let a1:St:=a0.p [(6,(vB (decide (p0.kind = 1)))),(5,(vB (decide (p0.kind = 1)))),(4,(vI p0.kind)),(3,(.ptr 1 0))]
 refine st 4 a1 (gp true (decide (p0.kind = 1)) (.ptr 1 0) (fun hc => vl) (gp true (decide (p0.kind = 1)) (vI p0.kind) (fun hc => vg hc) (gp true (decide (p0.kind = 1)) (vB (decide (p0.kind = 3))) (fun hc => vg hc) ?_)))
 refine vs (fun (y:Bool) => (vB y)) h (fun y hy => vop_pickV hy (p:=true) (q:=(true && ((decide (p0.kind = 1)) == false))) kr kr kr kr (fun _ => rfl) (fun hb => gc_f rfl hb)) fun y1 h => ?_
 let a2:St:=a1.p [(11,(vB y1)),(10,(vB y1)),(9,(.ite (true && ((decide (p0.kind = 1)) == false)) (vB (decide (p0.kind = 3))))),(8,(.ite (true && ((decide (p0.kind = 1)) == false)) (vI p0.kind))),(7,(.ite (true && ((decide (p0.kind = 1)) == false)) (.ptr 1 0)))]
 refine st 1 a2 (gp true y1 (.ptr 1 0) (fun hc => vl) (gp true y1 (vI p0.kind) (fun hc => vg hc) (gp true y1 (vB (decide (p0.kind = 2))) (fun hc => vg hc) (gp true y1 (vB (decide (p0.kind = 2))) (fun hc => vg hc) (gp (true && (y1 == false)) (decide (p0.kind = 2)) (.ptr 1 1) (fun hc => vl) (gp (true && (y1 == false)) (decide (p0.kind = 2)) (vS p0.text) (fun hc => vg hc) ?_))))))
 refine gcall_step (p:=(true && (y1 == false))) (b:=(decide (p0.kind = 2))) (m:=iPlainName p0.text) (dflt:=default) (args:=[(vS p0.text)]) (v':=(fun y => (vB y))) h kr (OK_iPlainName p0.text) (fun hc => by kernel_rfl) kr (fun _ => rfl) (fun hc => (Eq.trans (b:=([((true && (y1 == false)) && ((decide (p0.kind = 2)) == true))]:List Bool).all id) kr (all_c hc rfl))) ?_
 clear h; intro y2 h
 refine gv true y1 (fun (y:Bool) => (vB y)) h (fun y hy hc => vop_pickV hy (p:=((true && (y1 == false)) && ((decide (p0.kind = 2)) == true))) (q:=true) (Eq.trans (b:=([(true && (y1 == false))]:List Bool).all id) kr (all_c hc rfl)) kr kr kr (fun hb => gc_t hc hb) (fun _ => rfl)) fun y3 h => ?_
 refine vs (fun (y:Bool) => (vB y)) h (fun y hy => vop_pickV hy (p:=true) (q:=(true && (y1 == false))) kr kr kr kr (fun _ => rfl) (fun hb => gc_f rfl hb)) fun y4 h => ?_
 let a3:St:=a2.p [(2,(vB y4)),(20,(vB y4)),(19,(.ite (gF y1) (vB y3))),(18,(.ite ((gF y1) && ((decide (p0.kind = 2)) == true)) (vB y2))),(17,(.ite ((gF y1) && ((decide (p0.kind = 2)) == true)) (vS p0.text))),(16,(.ite ((gF y1) && ((decide (p0.kind = 2)) == true)) (.ptr 1 1))),(15,(.ite (gF y1) (vB (decide (p0.kind = 2))))),(14,(.ite (gF y1) (vB (decide (p0.kind = 2))))),(13,(.ite (gF y1) (vI p0.kind))),(12,(.ite (gF y1) (.ptr 1 0)))]
 refine st 1 a3 (nx (ri ?_))
 injection h with h; subst h
 exact r1 (v:=(vB y4))
theorem OK_iNeedsGap (p0:GToken) (p1:GToken):FOk Tryz.prog 34 [(vGToken p0),(vGToken p1)] (fun y => (vB y)) (iNeedsGap p0 p1):=by
 intro r h
 rw [iNeedsGap] at h
 refine aof triNeedsGap ?_
 show avc Tryz.prog aciNeedsGap (qiNeedsGap _) ⟨[(0,(vGToken p0)),(1,(vGToken p1))], []⟩
 delta aciNeedsGap
 refine so ?_
 let a0:St:=⟨[(4,(vB false)),(3,(.ptr 3 0)),(2,(.ptr 2 0)),(0,(vGToken p0)),(1,(vGToken p1))], [(3, bGToken p1),(2, bGToken p0)]⟩
 refine st 3 a0 (nx (si (so ?_)))
 let a1:St:=a0.p [(5,(vGToken p0))]
 refine st 1 a1 (cs h (OK_iTokenOk p0) fun y1 h => ?_)
 let a2:St:=a1.p [(8,(vB (!y1))),(7,(vB (!y1))),(6,(vB y1))]
 refine st 2 a2 (gp true (!y1) (vGToken p1) (fun hc => vl) (gcall_step (p:=true) (b:=(!y1)) (m:=iTokenOk p1) (dflt:=default) (args:=[(vGToken p1)]) (v':=(fun y => (vB y))) h kr (OK_iTokenOk p1) (fun hc => by kernel_rfl) kr (fun _ => rfl) (fun hc => (Eq.trans (b:=([(true && ((!y1) == false))]:List Bool).all id) kr (all_c hc rfl))) ?_))
 clear h; intro y2 h
 refine gp true (!y1) (vB (!y2)) (fun hc => vg hc) (vs (fun (y:Bool) => (vB y)) h (fun y hy => vop_pickV hy (p:=true) (q:=(true && ((!y1) == false))) kr kr kr kr (fun _ => rfl) (fun hb => gc_f rfl hb)) fun y3 h => (nx ?_))
 refine cd h (fun h => ?_) fun h => ?_
 refine so ?_
 let a3:St:=a2.p [(4,(vB false)),(12,(vB y3)),(11,(.ite (true && ((!y1) == false)) (vB (!y2)))),(10,(.ite (true && ((!y1) == false)) (vB y2))),(9,(.ite (true && ((!y1) == false)) (vGToken p1)))]
 refine st 1 a3 (nx (ri (tr ?_)))
 injection h with h; subst h
 exact r1 (v:=(vB false))
 refine ki (xi (si (so ?_)))
 let a4:St:=a2.p [(13,(vGToken p0)),(12,(vB y3)),(11,(.ite (true && ((!y1) == false)) (vB (!y2)))),(10,(.ite (true && ((!y1) == false)) (vB y2))),(9,(.ite (true && ((!y1) == false)) (vGToken p1)))]
 refine st 1 a4 (cs h (OK_iIsWord p0) fun y4 h => ?_)
 let a5:St:=a4.p [(15,(vB y4)),(14,(vB y4))]
 refine st 1 a5 (gp true y4 (vGToken p1) (fun hc => vl) (gcall_step (p:=true) (b:=y4) (m:=iIsWord p1) (dflt:=default) (args:=[(vGToken p1)]) (v':=(fun y => (vB y))) h kr (OK_iIsWord p1) (fun hc => by kernel_rfl) kr (fun _ => rfl) (fun hc => (Eq.trans (b:=([(true && (y4 == true))]:List Bool).all id) kr (all_c hc rfl))) ?_))
 clear h; intro y5 h
 refine vs (fun (y:Bool) => (vB y)) h (fun y hy => vop_pickV hy (p:=(true && (y4 == true))) (q:=true) kr kr kr kr (fun hb => gc_t rfl hb) (fun _ => rfl)) fun y6 h => ?_
 let a6:St:=a5.p [(19,(vB y6)),(18,(vB y6)),(17,(.ite (gT y4) (vB y5))),(16,(.ite (gT y4) (vGToken p1)))]
 refine st 1 a6 (gp true y6 (vGToken p0) (fun hc => vl) (gcall_step (p:=true) (b:=y6) (m:=iIsQuotedName p0) (dflt:=default) (args:=[(vGToken p0)]) (v':=(fun y => (vB y))) h kr (OK_iIsQuotedName p0) (fun hc => by kernel_rfl) kr (fun _ => rfl) (fun hc => (Eq.trans (b:=([(true && (y6 == false))]:List Bool).all id) kr (all_c hc rfl))) ?_))
 clear h; intro y7 h
 refine gp true y6 (vB y7) (fun hc => vg hc) (gp (true && (y6 == false)) y7 (vGToken p1) (fun hc => vl) ?_)
 refine gcall_step (p:=(true && (y6 == false))) (b:=y7) (m:=iIsQuotedName p1) (dflt:=default) (args:=[(vGToken p1)]) (v':=(fun y => (vB y))) h kr (OK_iIsQuotedName p1) (fun hc => by kernel_rfl) kr (fun _ => rfl) (fun hc => (Eq.trans (b:=([((true && (y6 == false)) && (y7 == true))]:List Bool).all id) kr (all_c hc rfl))) ?_
 clear h; intro y8 h
 refine gv true y6 (fun (y:Bool) => (vB y)) h (fun y hy hc => vop_pickV hy (p:=((true && (y6 == false)) && (y7 == true))) (q:=true) (Eq.trans (b:=([(true && (y6 == false))]:List Bool).all id) kr (all_c hc rfl)) kr kr kr (fun hb => gc_t hc hb) (fun _ => rfl)) fun y9 h => ?_
 refine vs (fun (y:Bool) => (vB y)) h (fun y hy => vop_pickV hy (p:=true) (q:=(true && (y6 == false))) kr kr kr kr (fun _ => rfl) (fun hb => gc_f rfl hb)) fun y10 h => ?_
 let a7:St:=a6.p [(27,(vB y10)),(26,(vB y10)),(25,(.ite (gF y6) (vB y9))),(24,(.ite ((gF y6) && (y7 == true)) (vB y8))),(23,(.ite ((gF y6) && (y7 == true)) (vGToken p1))),(22,(.ite (gF y6) (vB y7))),(21,(.ite (gF y6) (vB y7))),(20,(.ite (gF y6) (vGToken p0)))]
 refine st 1 a7 (gp true y10 (.ptr 2 0) (fun hc => vl) (gp true y10 (vI p0.kind) (fun hc => vg hc) (gp true y10 (vB (decide (p0.kind = 4))) (fun hc => vg hc) (gp true y10 (vB (decide (p0.kind = 4))) (fun hc => vg hc) (gp (true && (y10 == false)) (decide (p0.kind = 4)) (.ptr 3 0) (fun hc => vl) (gp (true && (y10 == false)) (decide (p0.kind = 4)) (vI p1.kind) (fun hc => vg hc) ?_))))))
 refine gp (true && (y10 == false)) (decide (p0.kind = 4)) (vB (decide (p1.kind = 4))) (fun hc => vg hc) ?_
 refine gv true y10 (fun (y:Bool) => (vB y)) h (fun y hy hc => vop_pickV hy (p:=((true && (y10 == false)) && ((decide (p0.kind = 4)) == true))) (q:=true) (Eq.trans (b:=([(true && (y10 == false))]:List Bool).all id) kr (all_c hc rfl)) kr kr kr (fun hb => gc_t hc hb) (fun _ => rfl)) fun y11 h => ?_
 refine vs (fun (y:Bool) => (vB y)) h (fun y hy => vop_pickV hy (p:=true) (q:=(true && (y10 == false))) kr kr kr kr (fun _ => rfl) (fun hb => gc_f rfl hb)) fun y12 h => (nx ?_)
 refine cd h (fun h => ?_) fun h => ?_
 refine so ?_
 let a8:St:=a7.p [(4,(vB true)),(36,(vB y12)),(35,(.ite (gF y10) (vB y11))),(34,(.ite ((gF y10) && ((decide (p0.kind = 4)) == true)) (vB (decide (p1.kind = 4))))),(33,(.ite ((gF y10) && ((decide (p0.kind = 4)) == true)) (vI p1.kind))),(32,(.ite ((gF y10) && ((decide (p0.kind = 4)) == true)) (.ptr 3 0))),(31,(.ite (gF y10) (vB (decide (p0.kind = 4))))),(30,(.ite (gF y10) (vB (decide (p0.kind = 4))))),(29,(.ite (gF y10) (vI p0.kind))),(28,(.ite (gF y10) (.ptr 2 0)))]
 refine st 1 a8 (nx (ri (tr ?_)))
 injection h with h; subst h
 exact r1 (v:=(vB true))
 refine ki (xi (si (so ?_)))
 let a9:St:=a7.p [(40,(vB (!decide (p0.kind = 5)))),(39,(vB (!decide (p0.kind = 5)))),(38,(vI p0.kind)),(37,(.ptr 2 0)),(36,(vB y12)),(35,(.ite (gF y10) (vB y11))),(34,(.ite ((gF y10) && ((decide (p0.kind = 4)) == true)) (vB (decide (p1.kind = 4))))),(33,(.ite ((gF y10) && ((decide (p0.kind = 4)) == true)) (vI p1.kind))),(32,(.ite ((gF y10) && ((decide (p0.kind = 4)) == true)) (.ptr 3 0))),(31,(.ite (gF y10) (vB (decide (p0.kind = 4))))),(30,(.ite (gF y10) (vB (decide (p0.kind = 4))))),(29,(.ite (gF y10) (vI p0.kind))),(28,(.ite (gF y10) (.ptr 2 0)))]
 refine st 4 a9 (gp true (!decide (p0.kind = 5)) (.ptr 3 0) (fun hc => vl) (gp true (!decide (p0.kind = 5)) (vI p1.kind) (fun hc => vg hc) (gp true (!decide (p0.kind = 5)) (vB (!decide (p1.kind = 5))) (fun hc => vg hc) ?_)))
 refine vs (fun (y:Bool) => (vB y)) h (fun y hy => vop_pickV hy (p:=true) (q:=(true && ((!decide (p0.kind = 5)) == false))) kr kr kr kr (fun _ => rfl) (fun hb => gc_f rfl hb)) fun y13 h => (nx ?_)
 refine cd h (fun h => ?_) fun h => ?_
 refine so ?_
 let a10:St:=a9.p [(4,(vB false)),(44,(vB y13)),(43,(.ite (true && ((!decide (p0.kind = 5)) == false)) (vB (!decide (p1.kind = 5))))),(42,(.ite (true && ((!decide (p0.kind = 5)) == false)) (vI p1.kind))),(41,(.ite (true && ((!decide (p0.kind = 5)) == false)) (.ptr 3 0)))]
 refine st 1 a10 (nx (ri (tr ?_)))
 injection h with h; subst h
 exact r1 (v:=(vB false))
 refine ki (xi (si (so ?_)))
 let a11:St:=a9.p [(46,(vS p0.text)),(45,(.ptr 2 1)),(44,(vB y13)),(43,(.ite (true && ((!decide (p0.kind = 5)) == false)) (vB (!decide (p1.kind = 5))))),(42,(.ite (true && ((!decide (p0.kind = 5)) == false)) (vI p1.kind))),(41,(.ite (true && ((!decide (p0.kind = 5)) == false)) (.ptr 3 0)))]
 refine st 2 a11 (nx (bi (so ?_)))
 let a12:St:=a11.p [(47,(vB (decide (p0.text = [45])))),(48,(vB (decide (p0.text = [45]))))]
 refine st 2 a12 (nx ?_)
 refine cd h (fun h => ?_) fun h => ?_
 refine so ?_
 let a13:St:=a12.p [(4,(vB (decide (p1.text = [45])))),(51,(vB (decide (p1.text = [45])))),(50,(vS p1.text)),(49,(.ptr 3 1))]
 refine st 4 a13 (nx (ri (br (tr ?_))))
 injection h with h; subst h
 exact r1 (v:=(vB (decide (p1.text = [45]))))
 refine so ?_
 let a14:St:=a12.p [(52,(vB (decide (p0.text = [47])))),(53,(vB (decide (p0.text = [47]))))]
 refine st 2 a14 (nx ?_)
 refine cd h (fun h => ?_) fun h => ?_
 refine so ?_
 let a15:St:=a14.p [(4,(vB (decide (p1.text = [42])))),(56,(vB (decide (p1.text = [42])))),(55,(vS p1.text)),(54,(.ptr 3 1))]
 refine st 4 a15 (nx (ri (br (tr ?_))))
 injection h with h; subst h
 exact r1 (v:=(vB (decide (p1.text = [42]))))
 refine so ?_
 let a16:St:=a14.p [(57,(vB (decide (p0.text = [60])))),(58,(vB (decide (p0.text = [60]))))]
 refine st 2 a16 (nx ?_)
 refine cd h (fun h => ?_) fun h => ?_
 refine so ?_
 let a17:St:=a16.p [(60,(vS p1.text)),(59,(.ptr 3 1))]
 refine st 2 a17 (vs (fun (y:Int) => (.d (.i .u8 y))) h (fun y hy => vop_ix (b:=p1.text) (k:=.i64) hy kr kr kr) fun y14 h => ?_)
 let a18:St:=a17.p [(63,(vB (decide (y14 = 61)))),(62,(vB (decide (y14 = 61)))),(61,(.d (.i .u8 y14)))]
 refine st 2 a18 (gp true (decide (y14 = 61)) (.ptr 3 1) (fun hc => vl) (gp true (decide (y14 = 61)) (vS p1.text) (fun hc => vg hc) (gv true (decide (y14 = 61)) (fun (y:Int) => (.d (.i .u8 y))) h (fun y hy hc => vop_ix (b:=p1.text) (k:=.i64) hy (Eq.trans (b:=([(true && ((decide (y14 = 61)) == false))]:List Bool).all id) kr (all_c hc rfl)) kr kr) fun y15 h => ?_)))
 refine gp true (decide (y14 = 61)) (vB (decide (y15 = 62))) (fun hc => vg hc) (vs (fun (y:Bool) => (vB y)) h (fun y hy => vop_pickV hy (p:=true) (q:=(true && ((decide (y14 = 61)) == false))) kr kr kr kr (fun _ => rfl) (fun hb => gc_f rfl hb)) fun y16 h => ?_)
 let a19:St:=a18.p [(4,(vB y16)),(68,(vB y16)),(67,(.ite (true && ((decide (y14 = 61)) == false)) (vB (decide (y15 = 62))))),(66,(.ite (true && ((decide (y14 = 61)) == false)) (.d (.i .u8 y15)))),(65,(.ite (true && ((decide (y14 = 61)) == false)) (vS p1.text))),(64,(.ite (true && ((decide (y14 = 61)) == false)) (.ptr 3 1)))]
 refine st 1 a19 (nx (ri (br (tr ?_))))
 injection h with h; subst h
 exact r1 (v:=(vB y16))
 refine so ?_
 let a20:St:=a16.p [(69,(vB (decide (p0.text = [62])))),(70,(vB (decide (p0.text = [62]))))]
 refine st 2 a20 (nx ?_)
 refine cd h (fun h => ?_) fun h => ?_
 refine so ?_
 let a21:St:=a20.p [(72,(vS p1.text)),(71,(.ptr 3 1))]
 refine st 2 a21 (vs (fun (y:Int) => (.d (.i .u8 y))) h (fun y hy => vop_ix (b:=p1.text) (k:=.i64) hy kr kr kr) fun y17 h => ?_)
 let a22:St:=a21.p [(4,(vB (decide (y17 = 61)))),(74,(vB (decide (y17 = 61)))),(73,(.d (.i .u8 y17)))]
 refine st 2 a22 (nx (ri (br (tr ?_))))
 injection h with h; subst h
 exact r1 (v:=(vB (decide (y17 = 61))))
 refine ki (bn (xi (so ?_)))
 let a23:St:=a20.p [(4,(vB false))]
 refine st 1 a23 (nx (ri ?_))
 injection h with h; subst h
 exact r1 (v:=(vB false))
theorem OKs_iJoined_iNeedsGap_J1 (p0:(List GToken)):(∀ (x11:Int) (y1:GToken) (b5_1_7:(List Int)) (r:(List UInt8)), iJoined_iNeedsGap_J1 p0 x11 y1 b5_1_7 = some r → avc Tryz.prog aciJoined_iNeedsGap_J1 (qiJoined_iNeedsGap_4 r) (stiJoined_iNeedsGap_J1 p0 x11 y1 b5_1_7)) ∧ (∀ (x11:Int) (b5_1:(List Int)) (r:(List UInt8)), iJoined_iNeedsGap_L0 p0 x11 b5_1 = some r → avc Tryz.prog aciJoined_iNeedsGap_L0 (qiJoined_iNeedsGap_1 r) (stiJoined_iNeedsGap_L0 p0 x11 b5_1)):=by
 refine iJoined_iNeedsGap_J1.mutual_partial_correctness p0 (fun x11 y1 b5_1_7 r => avc Tryz.prog aciJoined_iNeedsGap_J1 (qiJoined_iNeedsGap_4 r) (stiJoined_iNeedsGap_J1 p0 x11 y1 b5_1_7)) (fun x11 b5_1 r => avc Tryz.prog aciJoined_iNeedsGap_L0 (qiJoined_iNeedsGap_1 r) (stiJoined_iNeedsGap_L0 p0 x11 b5_1)) ?_ ?_
 · intro F_iJoined_iNeedsGap_L0 OK_iJoined_iNeedsGap_L0 x11 y1 b5_1_7 r h
   delta aciJoined_iNeedsGap_J1
   refine oi ?_
   let a14:St:=(stiJoined_iNeedsGap_J1 p0 x11 y1 b5_1_7).p [(32,(vGToken y1))]
   refine st 1 a14 (cs h (OK_iTokenText y1) fun y10 h => ?_)
   refine callg_step ⟨[(1000000, 5)], [(6000001, 5062501)], [], [], [], [(6000001, 5062501)], [], [5062501], []⟩ (m:=gStrings_Builder_WriteString_x b5_1_7 y10) (S':=fun (y:Int × (List Int)) => ⟨(34,(.tup [(vI y.1), .top])) :: (33,(vS y10)) :: a14.env, [(5, [(.bp 5 74),(.osl 5062501 5 1 (y.2.map cU8))]),(7, bGToken y1)]⟩) h (OK_gStrings_Builder_WriteString_x b5_1_7 y10) kr kr kr kr (fun y => by kernel_rfl) (fun y => by kernel_rfl) ?_
   clear h; intro y11 h
   refine ni (bn (xi (oi ?_)))
   let a15:St:=⟨(11,(vI (IntKind.wrap .i64 (x11 + 1)))) :: (35,(vI (IntKind.wrap .i64 (x11 + 1)))) :: (34,(.tup [(vI y11.1), .top])) :: (33,(vS y10)) :: a14.env, [(5, [(.bp 5 74),(.osl 5062501 5 1 (y11.2.map cU8))]),(7, bGToken y1)]⟩
   refine st 2 a15 (ni ?_)
   exact loop_back (s':=stiJoined_iNeedsGap_L0 p0 (IntKind.wrap .i64 (x11 + 1)) y11.2) (wr [(5062501, .old 5062501)] (es (es (es (es (es (es er_nil)))))) (br_cons (c0:=[(.bp 5 74),(.osl 5062501 5 1 (y11.2.map cU8))]) kr (vrs_cons (vr_same kr kr) (vrs_cons (vr_old (t:=5062501) kr kr) (vrs_nil))) br_nil)) (OK_iJoined_iNeedsGap_L0 (IntKind.wrap .i64 (x11 + 1)) y11.2 _ h)
 · intro F_iJoined_iNeedsGap_J1 OK_iJoined_iNeedsGap_J1 x11 b5_1 r h
   delta aciJoined_iNeedsGap_L0
   refine loop_unroll (so ?_)
   let a4:St:=(stiJoined_iNeedsGap_L0 p0 x11 b5_1).p [(12,(vB (decide (x11 < (ln p0)))))]
   refine st 1 a4 (nx (si ?_))
   refine cd h (fun h => ?_) fun h => ?_
   refine ki (xi (si (bi (so ?_))))
   let a5:St:=a4.p [(13,(vI x11))]
   refine st 1 a5 (vs (fun (y:GToken) => (.rp (cGToken y))) h (fun y hy => via (l:=p0) (f:=cGToken) (g:=cGToken) (k:=.i64) hy (fun _ => rfl)) fun y1 h => ?_)
   let a6:St:=⟨(6,(vI x11)) :: (7,(.ptr 7 0)) :: (15,(vGToken y1)) :: (14,(.rp (cGToken y1))) :: a5.env, [(7, bGToken y1),(5, [(.bp 5 74),(.osl 5062501 5 1 (b5_1.map cU8))])]⟩
   refine st 4 a6 (nx (si (so ?_)))
   let a7:St:=a6.p [(16,(vGToken y1))]
   refine st 1 a7 (cs h (OK_iTokenOk y1) fun y2 h => ?_)
   let a8:St:=a7.p [(18,(vB (!y2))),(17,(vB y2))]
   refine st 1 a8 (nx ?_)
   refine cd h (fun h => ?_) fun h => ?_
   refine so ?_
   let a9:St:=a8.p [(4,(vS []))]
   refine st 1 a9 (nx (ri (tr (br (tr (tr (br (tr ?_))))))))
   injection h with h; subst h
   exact r1 (v:=(vS []))
   refine ki (xi (si (si (dops_in ?_))))
   let a10:St:=a8.p [(21,(vB (decide (0 < x11)))),(20,(vB (decide (0 < x11)))),(19,(vI x11))]
   refine dsts_ok 3 (s':=a10) kr (dgp_step (p:=true) (b:=(decide (0 < x11))) (v':=(.fn 34 [])) kr rfl rfl (fun hc => vl) (dgp_step (p:=true) (b:=(decide (0 < x11))) (v':=(.d (.sl 3 (p0.map cGToken)))) kr rfl rfl (fun hc => vl) (dgp_step (p:=true) (b:=(decide (0 < x11))) (v':=(vI x11)) kr rfl rfl (fun hc => vl) ?_)))
   refine dgp_step (p:=true) (b:=(decide (0 < x11))) (v':=(vI (IntKind.wrap .i64 (x11 - 1)))) kr rfl rfl (fun hc => vg hc) ?_
   refine dgv_step (p:=true) (b:=(decide (0 < x11))) (m:=idx p0 (IntKind.wrap .i64 (x11 - 1))) (dflt:=default) (v':=fun y => (.rp (cGToken y))) h kr rfl rfl (fun y hy hc => vop_ia (l:=p0) (f:=cGToken) (g:=cGToken) (k:=.i64) hy (fun _ => rfl) (Eq.trans (b:=([(true && ((decide (0 < x11)) == true)),(true && ((decide (0 < x11)) == true))]:List Bool).all id) kr (all_c hc (all_c hc rfl))) kr kr) ?_
   clear h; intro y3 h
   refine dgp_step (p:=true) (b:=(decide (0 < x11))) (v':=(vGToken y3)) kr rfl rfl (fun hc => vg hc) (dgp_step (p:=true) (b:=(decide (0 < x11))) (v':=(vGToken y1)) kr rfl rfl (fun hc => vl) ?_)
   refine dgcallv_step (p:=true) (b:=(decide (0 < x11))) (m:=iNeedsGap y3 y1) (dflt:=default) (args:=[(vGToken y3),(vGToken y1)]) (v':=(fun y => (vB y))) h kr kr kr (OK_iNeedsGap y3 y1) (fun hc => by kernel_rfl) kr (fun _ => rfl) (fun hc => (Eq.trans (b:=([(true && ((decide (0 < x11)) == true)),(true && ((decide (0 < x11)) == true)),(true && ((decide (0 < x11)) == true))]:List Bool).all id) kr (all_c hc (all_c hc (all_c hc rfl))))) ?_
   clear h; intro y4 h
   refine dv_step (m:=some (if (decide (0 < x11)) = true then y4 else false)) (v':=fun y => (vB y)) h rfl rfl (fun y hy => vop_pickV hy (p:=(true && ((decide (0 < x11)) == true))) (q:=true) kr kr kr kr (fun hb => gc_t rfl hb) (fun _ => rfl)) ?_
   clear h; intro y5 h
   refine dnil_in kr kr (xi ?_)
   refine cd h (fun h => ?_) fun h => ?_
   refine oi ?_
   refine callg_step ⟨[(1000000, 5)], [(6000001, 5062501)], [], [], [], [(6000001, 5062501)], [], [5062501], []⟩ (m:=gStrings_Builder_WriteString_x b5_1 [32]) (S':=fun (y:Int × (List Int)) => ⟨(31,(.tup [(vI y.1), .top])) :: (30,(vB y5)) :: (29,(.ite (true && ((decide (0 < x11)) == true)) (vB y4))) :: (28,(.ite (true && ((decide (0 < x11)) == true)) (vGToken y1))) :: (27,(.ite (true && ((decide (0 < x11)) == true)) (vGToken y3))) :: (26,(.ite (true && ((decide (0 < x11)) == true)) (.rp (cGToken y3)))) :: (25,(.ite (true && ((decide (0 < x11)) == true)) (vI (IntKind.wrap .i64 (x11 - 1))))) :: (24,(.ite (true && ((decide (0 < x11)) == true)) (vI x11))) :: (23,(.ite (true && ((decide (0 < x11)) == true)) (.d (.sl 3 (p0.map cGToken))))) :: (22,(.ite (true && ((decide (0 < x11)) == true)) (.fn 34 []))) :: a10.env, [(7, bGToken y1),(5, [(.bp 5 74),(.osl 5062501 5 1 (y.2.map cU8))])]⟩) h (OK_gStrings_Builder_WriteString_x b5_1 [32]) kr kr kr kr (fun y => by kernel_rfl) (fun y => by kernel_rfl) ?_
   clear h; intro y6 h
   refine ni ?_
   exact next_step (s':=stiJoined_iNeedsGap_J1 p0 x11 y1 y6.2) (wr [(5062501, .old 5062501)] (es (es (es (es (es (es (es er_nil))))))) (br_cons (c0:=[(.bp 5 74),(.osl 5062501 5 1 (y6.2.map cU8))]) kr (vrs_cons (vr_same kr kr) (vrs_cons (vr_old (t:=5062501) kr kr) (vrs_nil))) (bs_ br_nil))) (OK_iJoined_iNeedsGap_J1 x11 y1 y6.2 _ h)
   refine ki ?_
   exact next_step (s':=stiJoined_iNeedsGap_J1 p0 x11 y1 b5_1) (wr [(5062501, .old 5062501)] (es (es (es (es (es (es (es er_nil))))))) (br_cons (c0:=[(.bp 5 74),(.osl 5062501 5 1 (b5_1.map cU8))]) kr (vrs_cons (vr_same kr kr) (vrs_cons (vr_old (t:=5062501) kr kr) (vrs_nil))) (bs_ br_nil))) (OK_iJoined_iNeedsGap_J1 x11 y1 b5_1 _ h)
   refine ei (te (te (bh (xi (si (so ?_))))))
   refine callg_step ⟨[(1000000, 5)], [(6000001, 5062501)], [], [], [], [(6000001, 5062501)], [], [5062501], []⟩ (m:=gStrings_Builder_Len_x b5_1) (S':=fun (y:Int) => ⟨(36,(vI y)) :: a4.env, [(5, [(.bp 5 74),(.osl 5062501 5 1 (b5_1.map cU8))])]⟩) h (OK_gStrings_Builder_Len_x b5_1) kr kr kr kr (fun y => by kernel_rfl) (fun y => by kernel_rfl) ?_
   clear h; intro y8 h
   let a11:St:=⟨(37,(vB (decide (2000 < y8)))) :: (36,(vI y8)) :: a4.env, [(5, [(.bp 5 74),(.osl 5062501 5 1 (b5_1.map cU8))])]⟩
   refine st 1 a11 (nx ?_)
   refine cd h (fun h => ?_) fun h => ?_
   refine so ?_
   let a12:St:=a11.p [(4,(vS []))]
   refine st 1 a12 (nx (ri (tr ?_)))
   injection h with h; subst h
   exact r1 (v:=(vS []))
   refine ki (xi (so ?_))
   refine callg_step ⟨[(1000000, 5)], [(6000001, 5062501)], [], [], [], [], [], [5062501], []⟩ (m:=gStrings_Builder_String_x b5_1) (S':=fun (y:(List UInt8) × (List Int)) => ⟨(38,(vS y.1)) :: a11.env, [(5, [(.bp 5 74),(.d (.sl 1 (y.2.map cU8)))])]⟩) h (OK_gStrings_Builder_String_x b5_1) kr kr kr kr (fun y => by kernel_rfl) (fun y => by kernel_rfl) ?_
   clear h; intro y9 h
   let a13:St:=⟨(4,(vS y9.1)) :: (38,(vS y9.1)) :: a11.env, [(5, [(.bp 5 74),(.d (.sl 1 (y9.2.map cU8)))])]⟩
   refine st 1 a13 (nx (ri ?_))
   injection h with h; subst h
   exact r1 (v:=(vS y9.1))
theorem OK_iJoined_iNeedsGap_J1 (p0:(List GToken)) (x11:Int) (y1:GToken) (b5_1_7:(List Int)) (r:(List UInt8)) (h:iJoined_iNeedsGap_J1 p0 x11 y1 b5_1_7 = some r):avc Tryz.prog aciJoined_iNeedsGap_J1 (qiJoined_iNeedsGap_4 r) (stiJoined_iNeedsGap_J1 p0 x11 y1 b5_1_7):=(OKs_iJoined_iNeedsGap_J1 p0).1 x11 y1 b5_1_7 r h
theorem OK_iJoined_iNeedsGap_L0 (p0:(List GToken)) (x11:Int) (b5_1:(List Int)) (r:(List UInt8)) (h:iJoined_iNeedsGap_L0 p0 x11 b5_1 = some r):avc Tryz.prog aciJoined_iNeedsGap_L0 (qiJoined_iNeedsGap_1 r) (stiJoined_iNeedsGap_L0 p0 x11 b5_1):=(OKs_iJoined_iNeedsGap_J1 p0).2 x11 b5_1 r h
theorem OK_iJoined_iNeedsGap (p0:(List GToken)):FOk Tryz.prog 31 [(.d (.sl 3 (p0.map cGToken))),(.fn 34 [])] (fun y => (vS y)) (iJoined_iNeedsGap p0):=by
 intro r h
 rw [iJoined_iNeedsGap] at h
 refine aof triJoined_iNeedsGap ?_
 show avc Tryz.prog aciJoined_iNeedsGap (qiJoined_iNeedsGap _) ⟨[(0,(.d (.sl 3 (p0.map cGToken)))),(1,(.fn 34 []))], []⟩
 delta aciJoined_iNeedsGap
 refine so ?_
 let a0:St:=⟨[(4,(vS [])),(0,(.d (.sl 3 (p0.map cGToken)))),(1,(.fn 34 []))], []⟩
 refine st 1 a0 (nx (so (bldv_step (c:=[.np,(.nil 1)]) (s':=⟨(8,(.agv [.np,(.nil 1)])) :: a0.env, a0.bx⟩) kr kr kr ?_)))
 let a1:St:=⟨(5,(.ptr 5 0)) :: (8,(.agv [.np,(.nil 1)])) :: a0.env, [(5, [(.bp 5 74),(.nil 1)])]⟩
 refine st 2 a1 (nx (si (so ?_)))
 let a2:St:=a1.p [(9,(.d (.sl 3 (p0.map cGToken))))]
 refine st 1 a2 (ps (vI (ln p0)) (vln (sz:=3) (l:=p0) (f:=cGToken)) ?_)
 let a3:St:=a2.p [(11,(vI 0)),(10,(vI (ln p0)))]
 refine st 1 a3 (nx (bi ?_))
 exact loop_go (s':=stiJoined_iNeedsGap_L0 p0 0 ([]:List Int)) (wr [(5062501, .new 5 1)] (es (es (es (es (es (es er_nil)))))) (br_cons (c0:=[(.bp 5 74),(.nil 1)]) kr (vrs_cons (vr_same kr kr) (vrs_cons (vr_new kr kr) (vrs_nil))) br_nil)) (OK_iJoined_iNeedsGap_L0 p0 0 ([]:List Int) _ h)
theorem OK_iSpaced (p0:(List GToken)):FOk Tryz.prog 15 [(.d (.sl 3 (p0.map cGToken)))] (fun y => (vS y)) (iSpaced p0):=by
 intro r h
 rw [iSpaced] at h
 refine aof triSpaced ?_
 show avc Tryz.prog aciSpaced (qiSpaced _) ⟨[(0,(.d (.sl 3 (p0.map cGToken))))], []⟩
 delta aciSpaced
 refine so ?_
 let a0:St:=⟨[(2,(vS [])),(0,(.d (.sl 3 (p0.map cGToken))))], []⟩
 refine st 1 a0 (nx (so ?_))
 let a1:St:=a0.p [(3,(.d (.sl 3 (p0.map cGToken))))]
 refine st 1 a1 (cs h (OK_iJoined_iNeedsGap p0) fun y1 h => ?_)
 let a2:St:=a1.p [(2,(vS y1)),(4,(vS y1))]
 refine st 1 a2 (nx (ri ?_))
 injection h with h; subst h
 exact r1 (v:=(vS y1))
theorem OK_iSqueeze (p0:(List UInt8)):FOk Tryz.prog 21 [(vS p0)] (fun y => (.tup [(vS y.1),(vI y.2)])) (iSqueeze p0):=by
 intro r h
 rw [iSqueeze] at h
 refine aof triSqueeze ?_
 show avc Tryz.prog aciSqueeze (qiSqueeze _) ⟨[(0,(vS p0))], []⟩
 delta aciSqueeze
 refine so ?_
 let a0:St:=⟨[(3,(vI 0)),(2,(vS [])),(0,(vS p0))], []⟩
 refine st 2 a0 (nx (so ?_))
 let a1:St:=a0.p [(7,(vS p0))]
 refine st 1 a1 (callg_step ⟨[], [], [], [], [], [(2000000, 5007000)], [], [5007000], []⟩ (m:=iLex p0) (S':=fun (y:(List GToken) × Int) => ⟨(8,(.tup [(.osl 5007000 53 3 (y.1.map cGToken)),(vI y.2)])) :: a1.env, a1.bx⟩) h (OK_iLex p0) kr kr kr kr (fun y => by kernel_rfl) (fun y => by kernel_rfl) ?_)
 clear h; intro y1 h
 let a2:St:=a1.p [(5,(vI y1.2)),(4,(.osl 4 53 3 (y1.1.map cGToken))),(10,(vI y1.2)),(9,(.d (.sl 3 (y1.1.map cGToken)))),(6,(.tup [(.d (.sl 3 (y1.1.map cGToken))),(vI y1.2)])),(8,(.tup [(.d (.sl 3 (y1.1.map cGToken))),(vI y1.2)]))]
 refine st 5 a2 (nx (si (so ?_)))
 let a3:St:=a2.p [(12,(vB (decide (0 ≤ y1.2)))),(11,(vI y1.2))]
 refine st 2 a3 (nx ?_)
 refine cd h (fun h => ?_) fun h => ?_
 refine so ?_
 let a4:St:=a3.p [(3,(vI y1.2)),(2,(vS [])),(13,(vI y1.2))]
 refine st 3 a4 (nx (ri (tr ?_)))
 injection h with h; subst h
 exact retn_step (vs:=[(vS []),(vI y1.2)]) kr kr
 refine ki (xi (so ?_))
 let a5:St:=a3.p [(14,(.osl 4 53 3 (y1.1.map cGToken)))]
 refine st 1 a5 (cs h (OK_iSpaced y1.1) fun y2 h => ?_)
 let a6:St:=a5.p [(3,(vI (-1))),(2,(vS y2)),(15,(vS y2))]
 refine st 2 a6 (nx (ri ?_))
 injection h with h; subst h
 exact retn_step (vs:=[(vS y2),(vI (-1))]) kr kr
theorem OKs_sL1New_L0 (p0:(List Int)):(∀ (x3:Int) (x4:Int) (r:GL1Cur), sL1New_L0 p0 x3 x4 = some r → avc Tryz.prog acsL1New_L0 (qsL1New_1 r) (stsL1New_L0 p0 x3 x4)):=by
 refine sL1New_L0.partial_correctness p0 (fun x3 x4 r => avc Tryz.prog acsL1New_L0 (qsL1New_1 r) (stsL1New_L0 p0 x3 x4)) ?_
 · intro F_sL1New_L0 OK_sL1New_L0 x3 x4 r h
   delta acsL1New_L0
   refine loop_unroll (si (so ?_))
   let a4:St:=(stsL1New_L0 p0 x3 x4).p [(9,(.d (.sl 1 (p0.map cU8)))),(8,(vI x4))]
   refine st 2 a4 (ps (vI (ln p0)) (vln (sz:=1) (l:=p0) (f:=cU8)) ?_)
   let a5:St:=a4.p [(12,(vB (decide (x4 < (ln p0))))),(11,(vB (decide (x4 < (ln p0))))),(10,(vI (ln p0)))]
   refine st 2 a5 (gp true (decide (x4 < (ln p0))) (vI x4) (fun hc => vl) (gp true (decide (x4 < (ln p0))) (vB (decide (x4 < 4000))) (fun hc => vg hc) ?_))
   refine vs (fun (y:Bool) => (vB y)) h (fun y hy => vop_pickV hy (p:=(true && ((decide (x4 < (ln p0))) == true))) (q:=true) kr kr kr kr (fun hb => gc_t rfl hb) (fun _ => rfl)) fun y1 h => (nx ?_)
   refine cd h (fun h => ?_) fun h => ?_
   refine ki (xi (si (bi (oi ?_))))
   let a6:St:=a5.p [(21,(vI x4)),(20,(.d (.sl 1 (p0.map cU8)))),(19,(vI (IntKind.wrap .i64 (x3 * 131)))),(18,(vI x3)),(15,(vB y1)),(14,(.ite (true && ((decide (x4 < (ln p0))) == true)) (vB (decide (x4 < 4000))))),(13,(.ite (true && ((decide (x4 < (ln p0))) == true)) (vI x4)))]
   refine st 4 a6 (vs (fun (y:Int) => (.rp [(.i .u8 y)])) h (fun y hy => via (l:=p0) (f:=cU8) (g:=cU8) (k:=.i64) hy (fun _ => rfl)) fun y2 h => ?_)
   let a7:St:=a6.p [(3,(vI (IntKind.wrap .i64 ((BitVec.ofInt (IntKind.bits .i64) (IntKind.wrap .i64 ((IntKind.wrap .i64 ((IntKind.wrap .i64 (x3 * 131)) + (IntKind.wrap .i64 y2))) + 7)) &&& BitVec.ofInt (IntKind.bits .i64) 1073741823).toNat:Int)))),(27,(vI (IntKind.wrap .i64 ((BitVec.ofInt (IntKind.bits .i64) (IntKind.wrap .i64 ((IntKind.wrap .i64 ((IntKind.wrap .i64 (x3 * 131)) + (IntKind.wrap .i64 y2))) + 7)) &&& BitVec.ofInt (IntKind.bits .i64) 1073741823).toNat:Int)))),(26,(vI (IntKind.wrap .i64 ((IntKind.wrap .i64 ((IntKind.wrap .i64 (x3 * 131)) + (IntKind.wrap .i64 y2))) + 7)))),(25,(vI (IntKind.wrap .i64 ((IntKind.wrap .i64 (x3 * 131)) + (IntKind.wrap .i64 y2))))),(24,(vI (IntKind.wrap .i64 y2))),(23,(.d (.i .u8 y2))),(22,(.rp [(.i .u8 y2)]))]
   refine st 6 a7 (ni (bn (xi (oi ?_))))
   let a8:St:=a7.p [(4,(vI (IntKind.wrap .i64 (x4 + 1)))),(17,(vI (IntKind.wrap .i64 (x4 + 1)))),(16,(vI x4))]
   refine st 3 a8 (ni ?_)
   exact loop_back (s':=stsL1New_L0 p0 (IntKind.wrap .i64 ((BitVec.ofInt (IntKind.bits .i64) (IntKind.wrap .i64 ((IntKind.wrap .i64 ((IntKind.wrap .i64 (x3 * 131)) + (IntKind.wrap .i64 y2))) + 7)) &&& BitVec.ofInt (IntKind.bits .i64) 1073741823).toNat:Int)) (IntKind.wrap .i64 (x4 + 1))) (wr [] (es (es (es er_nil))) br_nil) (OK_sL1New_L0 (IntKind.wrap .i64 ((BitVec.ofInt (IntKind.bits .i64) (IntKind.wrap .i64 ((IntKind.wrap .i64 ((IntKind.wrap .i64 (x3 * 131)) + (IntKind.wrap .i64 y2))) + 7)) &&& BitVec.ofInt (IntKind.bits .i64) 1073741823).toNat:Int)) (IntKind.wrap .i64 (x4 + 1)) _ h)
   refine ei (te (te (bh (xi (so ?_)))))
   let a9:St:=⟨(2,(.ptr 31 0)) :: (31,(.ptr 31 0)) :: (30,(vGL1Cur (GL1Cur.mk p0 0 x3))) :: (29,(vI x3)) :: (28,(.d (.sl 1 (p0.map cU8)))) :: (15,(vB y1)) :: (14,(.ite (true && ((decide (x4 < (ln p0))) == true)) (vB (decide (x4 < 4000))))) :: (13,(.ite (true && ((decide (x4 < (ln p0))) == true)) (vI x4))) :: a5.env, [(31, bGL1Cur (GL1Cur.mk p0 0 x3))]⟩
   refine st 5 a9 (nx (ri ?_))
   injection h with h; subst h
   exact ret1_step (v:=(.ptr 31 0)) kr kr ⟨by kernel_rfl, by kernel_rfl, trivial⟩
theorem OK_sL1New_L0 (p0:(List Int)) (x3:Int) (x4:Int) (r:GL1Cur) (h:sL1New_L0 p0 x3 x4 = some r):avc Tryz.prog acsL1New_L0 (qsL1New_1 r) (stsL1New_L0 p0 x3 x4):=(OKs_sL1New_L0 p0) x3 x4 r h
theorem OK_sL1New (p0:(List Int)):FOkB Tryz.prog 36 [(.d (.sl 1 (p0.map cU8)))] [] (fun (y:GL1Cur) => (.ptr 31 0)) (fun (y:GL1Cur) => [(31, bGL1Cur y)]) (sL1New p0):=by
 intro r h
 rw [sL1New] at h
 refine aof trsL1New ?_
 show avc Tryz.prog acsL1New (qsL1New _) ⟨[(0,(.d (.sl 1 (p0.map cU8))))], []⟩
 delta acsL1New
 refine so ?_
 let a0:St:=⟨[(2, .np),(0,(.d (.sl 1 (p0.map cU8))))], []⟩
 refine st 1 a0 (nx (so ?_))
 let a1:St:=a0.p [(5,(.d (.sl 1 (p0.map cU8))))]
 refine st 1 a1 (ps (vI (ln p0)) (vln (sz:=1) (l:=p0) (f:=cU8)) ?_)
 let a2:St:=a1.p [(3,(vI (IntKind.wrap .i64 (28322 + (ln p0))))),(7,(vI (IntKind.wrap .i64 (28322 + (ln p0))))),(6,(vI (ln p0)))]
 refine st 2 a2 (nx (si (so ?_)))
 let a3:St:=a2.p [(4,(vI 0))]
 exact st 1 a3 (nx (bi (loop_go (s':=stsL1New_L0 p0 (IntKind.wrap .i64 (28322 + (ln p0))) 0) (wr [] (es (es (es er_nil))) br_nil) (OK_sL1New_L0 p0 (IntKind.wrap .i64 (28322 + (ln p0))) 0 _ h))))
theorem OK_sL1Byte_J0 (p0:GL1Cur) (x3:Int) (b1000000_1:Int) (r:Int × GL1Cur) (h:sL1Byte_J0 p0 x3 b1000000_1 = some r):avc Tryz.prog acsL1Byte_J0 (qsL1Byte r) (stsL1Byte_J0 p0 x3 b1000000_1):=by
 rw [sL1Byte_J0] at h
 delta acsL1Byte_J0
 refine so ?_
 let a8:St:=(stsL1Byte_J0 p0 x3 b1000000_1).p [(2,(vI x3)),(57,(vI x3))]
 refine st 2 a8 (nx (ri ?_))
 injection h with h; subst h
 exact ret1_step (v:=(vI x3)) kr kr ⟨by kernel_rfl, by kernel_rfl, trivial⟩
theorem OK_sL1Byte (p0:GL1Cur):FOkB Tryz.prog 107 [(.ptr 1000000 0)] [(1000000, bGL1Cur p0)] (fun (y:Int × GL1Cur) => (vI y.1)) (fun (y:Int × GL1Cur) => [(1000000, bGL1Cur y.2)]) (sL1Byte p0):=by
 intro r h
 rw [sL1Byte] at h
 refine acalls_of_fn trsL1Byte (Nat.le_of_ble_eq_true rfl) (by intro n hn; simp at hn; simp only [NX]; omega) ?_
 show avc Tryz.prog acsL1Byte (qsL1Byte _) ⟨[(0,(.ptr 1000000 0))], [(1000000, bGL1Cur p0)]⟩
 delta acsL1Byte
 refine so ?_
 let a0:St:=⟨[(2,(vI 0)),(0,(.ptr 1000000 0))], [(1000000, bGL1Cur p0)]⟩
 refine st 1 a0 (nx (so ?_))
 let a1:St:=⟨(12,(.ptr 1000000 2)) :: (11,(.ptr 1000000 0)) :: (10,(vI (IntKind.wrap .i64 ((IntKind.wrap .i64 (p0.h * 6364136223846793005)) + 1442695040888963407)))) :: (9,(vI (IntKind.wrap .i64 (p0.h * 6364136223846793005)))) :: (8,(vI p0.h)) :: (7,(.ptr 1000000 2)) :: (6,(.ptr 1000000 0)) :: (5,(.ptr 1000000 0)) :: (4,(.ptr 1000000 0)) :: a0.env, [(1000000, bGL1Cur (GL1Cur.mk p0.b p0.i (IntKind.wrap .i64 ((IntKind.wrap .i64 (p0.h * 6364136223846793005)) + 1442695040888963407))))]⟩
 refine st 10 a1 (nx (si (dops_in ?_)))
 let a2:St:=a1.p [(3,(vI (IntKind.wrap .i64 ((BitVec.ofInt (IntKind.bits .i64) (IntKind.wrap .i64 ((BitVec.ofInt (IntKind.bits .i64) (Int.fdiv (IntKind.wrap .i64 ((IntKind.wrap .i64 (p0.h * 6364136223846793005)) + 1442695040888963407)) (2 ^ 33)) ^^^ BitVec.ofInt (IntKind.bits .i64) (Int.fdiv (IntKind.wrap .i64 ((IntKind.wrap .i64 (p0.h * 6364136223846793005)) + 1442695040888963407)) (2 ^ 45))).toNat:Int)) &&& BitVec.ofInt (IntKind.bits .i64) 255).toNat:Int)))),(24,(vI (IntKind.wrap .i64 ((BitVec.ofInt (IntKind.bits .i64) (IntKind.wrap .i64 ((BitVec.ofInt (IntKind.bits .i64) (Int.fdiv (IntKind.wrap .i64 ((IntKind.wrap .i64 (p0.h * 6364136223846793005)) + 1442695040888963407)) (2 ^ 33)) ^^^ BitVec.ofInt (IntKind.bits .i64) (Int.fdiv (IntKind.wrap .i64 ((IntKind.wrap .i64 (p0.h * 6364136223846793005)) + 1442695040888963407)) (2 ^ 45))).toNat:Int)) &&& BitVec.ofInt (IntKind.bits .i64) 255).toNat:Int)))),(23,(vI (IntKind.wrap .i64 ((BitVec.ofInt (IntKind.bits .i64) (Int.fdiv (IntKind.wrap .i64 ((IntKind.wrap .i64 (p0.h * 6364136223846793005)) + 1442695040888963407)) (2 ^ 33)) ^^^ BitVec.ofInt (IntKind.bits .i64) (Int.fdiv (IntKind.wrap .i64 ((IntKind.wrap .i64 (p0.h * 6364136223846793005)) + 1442695040888963407)) (2 ^ 45))).toNat:Int)))),(22,(vI (Int.fdiv (IntKind.wrap .i64 ((IntKind.wrap .i64 (p0.h * 6364136223846793005)) + 1442695040888963407)) (2 ^ 45)))),(21,(vI (IntKind.wrap .i64 ((IntKind.wrap .i64 (p0.h * 6364136223846793005)) + 1442695040888963407)))),(20,(.ptr 1000000 2)),(19,(.ptr 1000000 0)),(18,(.ptr 1000000 0)),(17,(vI (Int.fdiv (IntKind.wrap .i64 ((IntKind.wrap .i64 (p0.h * 6364136223846793005)) + 1442695040888963407)) (2 ^ 33)))),(16,(vI (IntKind.wrap .i64 ((IntKind.wrap .i64 (p0.h * 6364136223846793005)) + 1442695040888963407)))),(15,(.ptr 1000000 2)),(14,(.ptr 1000000 0)),(13,(.ptr 1000000 0))]
 refine dsts_ok 13 (s':=a2) kr (dnil_in kr kr (xi (si (si (dops_in ?_)))))
 let a3:St:=a2.p [(32,(.d (.sl 1 (p0.b.map cU8)))),(31,(.ptr 1000000 0)),(30,(.ptr 1000000 0)),(29,(.ptr 1000000 0)),(28,(vI p0.i)),(27,(.ptr 1000000 1)),(26,(.ptr 1000000 0)),(25,(.ptr 1000000 0))]
 refine dsts_ok 8 (s':=a3) kr (dp_step (v':=(vI (ln p0.b))) rfl rfl (vln (sz:=1) (l:=p0.b) (f:=cU8)) ?_)
 let a4:St:=a3.p [(34,(vB (decide (p0.i < (ln p0.b))))),(33,(vI (ln p0.b)))]
 refine dsts_ok 1 (s':=a4) kr (dnil_in kr kr (xi ?_))
 refine cd h (fun h => ?_) fun h => ?_
 refine si (dops_in ?_)
 let a5:St:=a4.p [(43,(vI p0.i)),(42,(.ptr 1000000 1)),(41,(.ptr 1000000 0)),(40,(.ptr 1000000 0)),(39,(.d (.sl 1 (p0.b.map cU8)))),(38,(.ptr 1000000 0)),(37,(.ptr 1000000 0)),(36,(.ptr 1000000 0)),(35,(vI (IntKind.wrap .i64 ((BitVec.ofInt (IntKind.bits .i64) (IntKind.wrap .i64 ((BitVec.ofInt (IntKind.bits .i64) (Int.fdiv (IntKind.wrap .i64 ((IntKind.wrap .i64 (p0.h * 6364136223846793005)) + 1442695040888963407)) (2 ^ 33)) ^^^ BitVec.ofInt (IntKind.bits .i64) (Int.fdiv (IntKind.wrap .i64 ((IntKind.wrap .i64 (p0.h * 6364136223846793005)) + 1442695040888963407)) (2 ^ 45))).toNat:Int)) &&& BitVec.ofInt (IntKind.bits .i64) 255).toNat:Int))))]
 refine dsts_ok 9 (s':=a5) kr (dv_step (m:=idx p0.b p0.i) (v':=fun y => (.rp [(.i .u8 y)])) h rfl rfl (fun y hy => via (l:=p0.b) (f:=cU8) (g:=cU8) (k:=.i64) hy (fun _ => rfl)) ?_)
 clear h; intro y1 h
 let a6:St:=a5.p [(3,(vI (IntKind.wrap .i64 ((BitVec.ofInt (IntKind.bits .i64) (IntKind.wrap .i64 ((IntKind.wrap .i64 ((BitVec.ofInt (IntKind.bits .i64) (IntKind.wrap .i64 ((BitVec.ofInt (IntKind.bits .i64) (Int.fdiv (IntKind.wrap .i64 ((IntKind.wrap .i64 (p0.h * 6364136223846793005)) + 1442695040888963407)) (2 ^ 33)) ^^^ BitVec.ofInt (IntKind.bits .i64) (Int.fdiv (IntKind.wrap .i64 ((IntKind.wrap .i64 (p0.h * 6364136223846793005)) + 1442695040888963407)) (2 ^ 45))).toNat:Int)) &&& BitVec.ofInt (IntKind.bits .i64) 255).toNat:Int)) + (IntKind.wrap .i64 y1))) &&& BitVec.ofInt (IntKind.bits .i64) 255).toNat:Int)))),(48,(vI (IntKind.wrap .i64 ((BitVec.ofInt (IntKind.bits .i64) (IntKind.wrap .i64 ((IntKind.wrap .i64 ((BitVec.ofInt (IntKind.bits .i64) (IntKind.wrap .i64 ((BitVec.ofInt (IntKind.bits .i64) (Int.fdiv (IntKind.wrap .i64 ((IntKind.wrap .i64 (p0.h * 6364136223846793005)) + 1442695040888963407)) (2 ^ 33)) ^^^ BitVec.ofInt (IntKind.bits .i64) (Int.fdiv (IntKind.wrap .i64 ((IntKind.wrap .i64 (p0.h * 6364136223846793005)) + 1442695040888963407)) (2 ^ 45))).toNat:Int)) &&& BitVec.ofInt (IntKind.bits .i64) 255).toNat:Int)) + (IntKind.wrap .i64 y1))) &&& BitVec.ofInt (IntKind.bits .i64) 255).toNat:Int)))),(47,(vI (IntKind.wrap .i64 ((IntKind.wrap .i64 ((BitVec.ofInt (IntKind.bits .i64) (IntKind.wrap .i64 ((BitVec.ofInt (IntKind.bits .i64) (Int.fdiv (IntKind.wrap .i64 ((IntKind.wrap .i64 (p0.h * 6364136223846793005)) + 1442695040888963407)) (2 ^ 33)) ^^^ BitVec.ofInt (IntKind.bits .i64) (Int.fdiv (IntKind.wrap .i64 ((IntKind.wrap .i64 (p0.h * 6364136223846793005)) + 1442695040888963407)) (2 ^ 45))).toNat:Int)) &&& BitVec.ofInt (IntKind.bits .i64) 255).toNat:Int)) + (IntKind.wrap .i64 y1))))),(46,(vI (IntKind.wrap .i64 y1))),(45,(.d (.i .u8 y1))),(44,(.rp [(.i .u8 y1)]))]
 refine dsts_ok 5 (s':=a6) kr (dnil_in kr kr (xi (oi ?_)))
 let a7:St:=⟨(56,(.ptr 1000000 1)) :: (55,(.ptr 1000000 0)) :: (54,(vI (IntKind.wrap .i64 (p0.i + 1)))) :: (53,(vI p0.i)) :: (52,(.ptr 1000000 1)) :: (51,(.ptr 1000000 0)) :: (50,(.ptr 1000000 0)) :: (49,(.ptr 1000000 0)) :: a6.env, [(1000000, bGL1Cur (GL1Cur.mk p0.b (IntKind.wrap .i64 (p0.i + 1)) (IntKind.wrap .i64 ((IntKind.wrap .i64 (p0.h * 6364136223846793005)) + 1442695040888963407))))]⟩
 refine st 9 a7 (ni ?_)
 exact next_step (s':=stsL1Byte_J0 p0 (IntKind.wrap .i64 ((BitVec.ofInt (IntKind.bits .i64) (IntKind.wrap .i64 ((IntKind.wrap .i64 ((BitVec.ofInt (IntKind.bits .i64) (IntKind.wrap .i64 ((BitVec.ofInt (IntKind.bits .i64) (Int.fdiv (IntKind.wrap .i64 ((IntKind.wrap .i64 (p0.h * 6364136223846793005)) + 1442695040888963407)) (2 ^ 33)) ^^^ BitVec.ofInt (IntKind.bits .i64) (Int.fdiv (IntKind.wrap .i64 ((IntKind.wrap .i64 (p0.h * 6364136223846793005)) + 1442695040888963407)) (2 ^ 45))).toNat:Int)) &&& BitVec.ofInt (IntKind.bits .i64) 255).toNat:Int)) + (IntKind.wrap .i64 y1))) &&& BitVec.ofInt (IntKind.bits .i64) 255).toNat:Int)) (IntKind.wrap .i64 (p0.i + 1))) (wr [] (es er_nil) (bs_ br_nil)) (OK_sL1Byte_J0 p0 (IntKind.wrap .i64 ((BitVec.ofInt (IntKind.bits .i64) (IntKind.wrap .i64 ((IntKind.wrap .i64 ((BitVec.ofInt (IntKind.bits .i64) (IntKind.wrap .i64 ((BitVec.ofInt (IntKind.bits .i64) (Int.fdiv (IntKind.wrap .i64 ((IntKind.wrap .i64 (p0.h * 6364136223846793005)) + 1442695040888963407)) (2 ^ 33)) ^^^ BitVec.ofInt (IntKind.bits .i64) (Int.fdiv (IntKind.wrap .i64 ((IntKind.wrap .i64 (p0.h * 6364136223846793005)) + 1442695040888963407)) (2 ^ 45))).toNat:Int)) &&& BitVec.ofInt (IntKind.bits .i64) 255).toNat:Int)) + (IntKind.wrap .i64 y1))) &&& BitVec.ofInt (IntKind.bits .i64) 255).toNat:Int)) (IntKind.wrap .i64 (p0.i + 1)) _ h)
 refine ki ?_
 exact next_step (s':=stsL1Byte_J0 p0 (IntKind.wrap .i64 ((BitVec.ofInt (IntKind.bits .i64) (IntKind.wrap .i64 ((BitVec.ofInt (IntKind.bits .i64) (Int.fdiv (IntKind.wrap .i64 ((IntKind.wrap .i64 (p0.h * 6364136223846793005)) + 1442695040888963407)) (2 ^ 33)) ^^^ BitVec.ofInt (IntKind.bits .i64) (Int.fdiv (IntKind.wrap .i64 ((IntKind.wrap .i64 (p0.h * 6364136223846793005)) + 1442695040888963407)) (2 ^ 45))).toNat:Int)) &&& BitVec.ofInt (IntKind.bits .i64) 255).toNat:Int)) p0.i) (wr [] (es er_nil) (bs_ br_nil)) (OK_sL1Byte_J0 p0 (IntKind.wrap .i64 ((BitVec.ofInt (IntKind.bits .i64) (IntKind.wrap .i64 ((BitVec.ofInt (IntKind.bits .i64) (Int.fdiv (IntKind.wrap .i64 ((IntKind.wrap .i64 (p0.h * 6364136223846793005)) + 1442695040888963407)) (2 ^ 33)) ^^^ BitVec.ofInt (IntKind.bits .i64) (Int.fdiv (IntKind.wrap .i64 ((IntKind.wrap .i64 (p0.h * 6364136223846793005)) + 1442695040888963407)) (2 ^ 45))).toNat:Int)) &&& BitVec.ofInt (IntKind.bits .i64) 255).toNat:Int)) p0.i _ h)
theorem OK_sL1Below (p0:GL1Cur) (p1:Int):FOkB Tryz.prog 59 [(.ptr 1000000 0),(vI p1)] [(1000000, bGL1Cur p0)] (fun (y:Int × GL1Cur) => (vI y.1)) (fun (y:Int × GL1Cur) => [(1000000, bGL1Cur y.2)]) (sL1Below p0 p1):=by
 intro r h
 rw [sL1Below] at h
 refine acalls_of_fn trsL1Below (Nat.le_of_ble_eq_true rfl) (by intro n hn; simp at hn; simp only [NX]; omega) ?_
 show avc Tryz.prog acsL1Below (qsL1Below _) ⟨[(0,(.ptr 1000000 0)),(1,(vI p1))], [(1000000, bGL1Cur p0)]⟩
 delta acsL1Below
 refine so ?_
 let a0:St:=⟨[(4,(vI 0)),(0,(.ptr 1000000 0)),(1,(vI p1))], [(1000000, bGL1Cur p0)]⟩
 refine st 1 a0 (nx (si (so ?_)))
 let a1:St:=a0.p [(10,(vB (decide (p1 ≤ 0)))),(9,(vI p1))]
 refine st 2 a1 (nx ?_)
 refine cd h (fun h => ?_) fun h => ?_
 refine so ?_
 let a2:St:=a1.p [(4,(vI 0))]
 refine st 1 a2 (nx (ri (tr ?_)))
 injection h with h; subst h
 exact ret1_step (v:=(vI 0)) kr kr ⟨by kernel_rfl, by kernel_rfl, trivial⟩
 refine ki (xi (si (so ?_)))
 let a3:St:=a1.p [(12,(vB (decide (p1 ≤ 256)))),(11,(vI p1))]
 refine st 2 a3 (nx ?_)
 refine cd h (fun h => ?_) fun h => ?_
 refine so ?_
 let a4:St:=a3.p [(13,(.ptr 1000000 0))]
 refine st 1 a4 (callg_step ⟨[(1000000, 1000000)], [], [], [], [], [], [], [], []⟩ (m:=sL1Byte p0) (S':=fun (y:Int × GL1Cur) => ⟨(14,(vI y.1)) :: a4.env, [(1000000, bGL1Cur y.2)]⟩) h (OK_sL1Byte p0) kr kr kr kr (fun y => by kernel_rfl) (fun y => by kernel_rfl) ?_)
 clear h; intro y1 h
 let a5:St:=⟨(15,(vI p1)) :: (14,(vI y1.1)) :: a4.env, [(1000000, bGL1Cur y1.2)]⟩
 refine st 1 a5 (vs (fun (y:Int) => (vI y)) h (fun y hy => vop_rem (k:=.i64) (a:=y1.1) (b:=p1) hy kr kr kr) fun y2 h => ?_)
 let a6:St:=a5.p [(4,(vI y2)),(16,(vI y2))]
 refine st 1 a6 (nx (ri (tr ?_)))
 injection h with h; subst h
 exact ret1_step (v:=(vI y2)) kr kr ⟨by kernel_rfl, by kernel_rfl, trivial⟩
 refine ki (xi (so ?_))
 let a7:St:=a3.p [(17,(.ptr 1000000 0))]
 refine st 1 a7 (callg_step ⟨[(1000000, 1000000)], [], [], [], [], [], [], [], []⟩ (m:=sL1Byte p0) (S':=fun (y:Int × GL1Cur) => ⟨(18,(vI y.1)) :: a7.env, [(1000000, bGL1Cur y.2)]⟩) h (OK_sL1Byte p0) kr kr kr kr (fun y => by kernel_rfl) (fun y => by kernel_rfl) ?_)
 clear h; intro y3 h
 let a8:St:=⟨(5,(vI y3.1)) :: (18,(vI y3.1)) :: a7.env, [(1000000, bGL1Cur y3.2)]⟩
 refine st 1 a8 (nx (so ?_))
 let a9:St:=a8.p [(19,(.ptr 1000000 0))]
 refine st 1 a9 (callg_step ⟨[(1000000, 1000000)], [], [], [], [], [], [], [], []⟩ (m:=sL1Byte y3.2) (S':=fun (y:Int × GL1Cur) => ⟨(20,(vI y.1)) :: a9.env, [(1000000, bGL1Cur y.2)]⟩) h (OK_sL1Byte y3.2) kr kr kr kr (fun y => by kernel_rfl) (fun y => by kernel_rfl) ?_)
 clear h; intro y4 h
 let a10:St:=⟨(6,(vI y4.1)) :: (20,(vI y4.1)) :: a9.env, [(1000000, bGL1Cur y4.2)]⟩
 refine st 1 a10 (nx (so ?_))
 let a11:St:=a10.p [(21,(.ptr 1000000 0))]
 refine st 1 a11 (callg_step ⟨[(1000000, 1000000)], [], [], [], [], [], [], [], []⟩ (m:=sL1Byte y4.2) (S':=fun (y:Int × GL1Cur) => ⟨(22,(vI y.1)) :: a11.env, [(1000000, bGL1Cur y.2)]⟩) h (OK_sL1Byte y4.2) kr kr kr kr (fun y => by kernel_rfl) (fun y => by kernel_rfl) ?_)
 clear h; intro y5 h
 let a12:St:=⟨(7,(vI y5.1)) :: (22,(vI y5.1)) :: a11.env, [(1000000, bGL1Cur y5.2)]⟩
 refine st 1 a12 (nx (so ?_))
 let a13:St:=a12.p [(23,(.ptr 1000000 0))]
 refine st 1 a13 (callg_step ⟨[(1000000, 1000000)], [], [], [], [], [], [], [], []⟩ (m:=sL1Byte y5.2) (S':=fun (y:Int × GL1Cur) => ⟨(24,(vI y.1)) :: a13.env, [(1000000, bGL1Cur y.2)]⟩) h (OK_sL1Byte y5.2) kr kr kr kr (fun y => by kernel_rfl) (fun y => by kernel_rfl) ?_)
 clear h; intro y6 h
 let a14:St:=⟨(8,(vI y6.1)) :: (24,(vI y6.1)) :: a13.env, [(1000000, bGL1Cur y6.2)]⟩
 refine st 1 a14 (nx (so ?_))
 let a15:St:=a14.p [(35,(vI p1)),(34,(vI (IntKind.wrap .i64 ((IntKind.wrap .i64 ((IntKind.wrap .i64 ((IntKind.wrap .i64 (y3.1 * 16777216)) + (IntKind.wrap .i64 (y4.1 * 65536)))) + (IntKind.wrap .i64 (y5.1 * 256)))) + y6.1)))),(33,(vI y6.1)),(32,(vI (IntKind.wrap .i64 ((IntKind.wrap .i64 ((IntKind.wrap .i64 (y3.1 * 16777216)) + (IntKind.wrap .i64 (y4.1 * 65536)))) + (IntKind.wrap .i64 (y5.1 * 256)))))),(31,(vI (IntKind.wrap .i64 (y5.1 * 256)))),(30,(vI y5.1)),(29,(vI (IntKind.wrap .i64 ((IntKind.wrap .i64 (y3.1 * 16777216)) + (IntKind.wrap .i64 (y4.1 * 65536)))))),(28,(vI (IntKind.wrap .i64 (y4.1 * 65536)))),(27,(vI y4.1)),(26,(vI (IntKind.wrap .i64 (y3.1 * 16777216)))),(25,(vI y3.1))]
 refine st 11 a15 (vs (fun (y:Int) => (vI y)) h (fun y hy => vop_rem (k:=.i64) (a:=(IntKind.wrap .i64 ((IntKind.wrap .i64 ((IntKind.wrap .i64 ((IntKind.wrap .i64 (y3.1 * 16777216)) + (IntKind.wrap .i64 (y4.1 * 65536)))) + (IntKind.wrap .i64 (y5.1 * 256)))) + y6.1))) (b:=p1) hy kr kr kr) fun y7 h => ?_)
 let a16:St:=a15.p [(4,(vI y7)),(36,(vI y7))]
 refine st 1 a16 (nx (ri ?_))
 injection h with h; subst h
 exact ret1_step (v:=(vI y7)) kr kr ⟨by kernel_rfl, by kernel_rfl, trivial⟩
theorem OK_sFold_J2 (x3:(List Int)) (r:(List UInt8)) (h:sFold_J2 x3 = some r):avc Tryz.prog acsFold_J2 (qsFold r) (stsFold_J2 x3):=by
 rw [sFold_J2] at h
 delta acsFold_J2
 refine so ?_
 let a11:St:=(stsFold_J2 x3).p [(33,(.d (.sl 1 (x3.map cU8))))]
 refine st 1 a11 (vs (fun (y:(List UInt8)) => (vS y)) h (fun y hy => vop_cbs (l:=x3) hy kr kr) fun y3 h => ?_)
 let a12:St:=a11.p [(2,(vS y3)),(34,(vS y3))]
 refine st 1 a12 (nx (ri ?_))
 injection h with h; subst h
 exact r1 (v:=(vS y3))
theorem OKs_sFold_J1:(∀ (x4:Int) (b60052000_0:(List Int)) (r:(List UInt8)), sFold_J1 x4 b60052000_0 = some r → avc Tryz.prog acsFold_J1 (qsFold_2 r) (stsFold_J1 x4 b60052000_0)) ∧ (∀ (x4:Int) (b60013000_0:(List Int)) (r:(List UInt8)), sFold_L0 x4 b60013000_0 = some r → avc Tryz.prog acsFold_L0 (qsFold_1 r) (stsFold_L0 x4 b60013000_0)):=by
 refine sFold_J1.mutual_partial_correctness (fun x4 b60052000_0 r => avc Tryz.prog acsFold_J1 (qsFold_2 r) (stsFold_J1 x4 b60052000_0)) (fun x4 b60013000_0 r => avc Tryz.prog acsFold_L0 (qsFold_1 r) (stsFold_L0 x4 b60013000_0)) ?_ ?_
 · intro F_sFold_L0 OK_sFold_L0 x4 b60052000_0 r h
   delta acsFold_J1
   refine oi ?_
   let a10:St:=(stsFold_J1 x4 b60052000_0).p [(4,(vI (IntKind.wrap .i64 (x4 + 1)))),(12,(vI (IntKind.wrap .i64 (x4 + 1)))),(11,(vI x4))]
   exact st 3 a10 (ni (loop_back (s':=stsFold_L0 (IntKind.wrap .i64 (x4 + 1)) b60052000_0) (tw [.rn [(60052000, 60013000)]] (wr [] (es (es er_nil)) (bs_ br_nil))) (OK_sFold_L0 (IntKind.wrap .i64 (x4 + 1)) b60052000_0 _ h)))
 · intro F_sFold_J1 OK_sFold_J1 x4 b60013000_0 r h
   delta acsFold_L0
   refine loop_unroll (si (so ?_))
   let a4:St:=(stsFold_L0 x4 b60013000_0).p [(8,(.tre 60013000)),(7,(vI x4))]
   refine st 2 a4 (ps (vI (ln b60013000_0)) (vop_lenT (n:=60013000) (l:=b60013000_0.map cU8) (L:=b60013000_0.length) kr kr (List.length_map ..)) ?_)
   let a5:St:=a4.p [(10,(vB (decide (x4 < (ln b60013000_0))))),(9,(vI (ln b60013000_0)))]
   refine st 1 a5 (nx ?_)
   refine cd h (fun h => ?_) fun h => ?_
   refine ki (xi (si (bi (so ?_))))
   let a6:St:=a5.p [(14,(vI x4)),(13,(.tre 60013000))]
   refine st 2 a6 (iat_step (n:=60013000) (k:=.i64) (i:=x4) (l:=b60013000_0) (f:=cU8) (g:=cU8) [] (S':=fun y => ⟨(15,(.trp 60013000 1 (x4).toNat 0)) :: a6.env, [(60013000, [(.tro 1 (x4).toNat (b60013000_0.map cU8)),(.d (.i .u8 y))])]⟩) h kr kr kr (fun _ => rfl) kr (fun y => by kernel_rfl) ?_)
   clear h; intro y1 hiy1 h
   refine ps (.d (.i .u8 y1)) (vop_ldT (n:=60013000) (sz:=1) (i:=(x4).toNat) (off:=0) (l:=b60013000_0.map cU8) (c:=[(.d (.i .u8 y1))]) kr kr kr) ?_
   let a7:St:=⟨(18,(vB (decide (97 ≤ y1)))) :: (17,(vB (decide (97 ≤ y1)))) :: (16,(.d (.i .u8 y1))) :: (15,(.trp 60013000 1 (x4).toNat 0)) :: a6.env, [(60013000, [(.tro 1 (x4).toNat (b60013000_0.map cU8)),(.d (.i .u8 y1))])]⟩
   refine st 2 a7 (gp true (decide (97 ≤ y1)) (.tre 60013000) (fun hc => vl) (gp true (decide (97 ≤ y1)) (vI x4) (fun hc => vl) ?_))
   refine gp true (decide (97 ≤ y1)) (.trp 60013000 1 (x4).toNat 0) (fun hc => vop_iaO (n:=60013000) (k:=.i64) (i:=x4) (l:=b60013000_0.map cU8) (c:=[(.d (.i .u8 y1))]) (idx_get hiy1).1 kr (Eq.trans (b:=([(true && ((decide (97 ≤ y1)) == true)),(true && ((decide (97 ≤ y1)) == true))]:List Bool).all id) kr (all_c hc (all_c hc rfl))) kr kr) ?_
   refine gp true (decide (97 ≤ y1)) (.d (.i .u8 y1)) (fun hc => vop_ldTg (n:=60013000) (sz:=1) (i:=(x4).toNat) (off:=0) (l:=b60013000_0.map cU8) (c:=[(.d (.i .u8 y1))]) (Eq.trans (b:=([(true && ((decide (97 ≤ y1)) == true))]:List Bool).all id) kr (all_c hc rfl)) kr kr kr) ?_
   refine gp true (decide (97 ≤ y1)) (vB (decide (y1 ≤ 122))) (fun hc => vg hc) (vs (fun (y:Bool) => (vB y)) h (fun y hy => vop_pickV hy (p:=(true && ((decide (97 ≤ y1)) == true))) (q:=true) kr kr kr kr (fun hb => gc_t rfl hb) (fun _ => rfl)) fun y2 h => (nx ?_))
   refine cd h (fun h => ?_) fun h => ?_
   refine oi ?_
   let a8:St:=a7.p [(28,(vI x4)),(27,(.tre 60013000)),(26,(vI x4)),(25,(.tre 60013000)),(24,(vB y2)),(23,(.ite (true && ((decide (97 ≤ y1)) == true)) (vB (decide (y1 ≤ 122))))),(22,(.ite (true && ((decide (97 ≤ y1)) == true)) (.d (.i .u8 y1)))),(21,(.ite (true && ((decide (97 ≤ y1)) == true)) (.trp 60013000 1 (x4).toNat 0))),(20,(.ite (true && ((decide (97 ≤ y1)) == true)) (vI x4))),(19,(.ite (true && ((decide (97 ≤ y1)) == true)) (.tre 60013000)))]
   refine st 4 a8 (iao_step (n:=60013000) (k:=.i64) (i:=x4) (l:=b60013000_0.map cU8) (c:=[(.d (.i .u8 y1))]) kr kr (idx_get hiy1).1 kr (ps (.d (.i .u8 y1)) (vop_ldT (n:=60013000) (sz:=1) (i:=(x4).toNat) (off:=0) (l:=b60013000_0.map cU8) (c:=[(.d (.i .u8 y1))]) kr kr kr) ?_))
   let a9:St:=a8.p [(31,(.d (.i .u8 (IntKind.wrap .u8 (y1 - 32))))),(30,(.d (.i .u8 y1))),(29,(.trp 60013000 1 (x4).toNat 0))]
   refine st 1 a9 (iao_step (n:=60013000) (k:=.i64) (i:=x4) (l:=b60013000_0.map cU8) (c:=[(.d (.i .u8 y1))]) kr kr (idx_get hiy1).1 kr ?_)
   refine stt_step (n:=60013000) (sz:=1) (i:=(x4).toNat) (off:=0) (l:=b60013000_0.map cU8) (c:=[(.d (.i .u8 y1))]) (s':=⟨(32,(.trp 60013000 1 (x4).toNat 0)) :: a9.env, [(60013000, [(.tro 1 (x4).toNat (b60013000_0.map cU8)),(.d (.i .u8 (IntKind.wrap .u8 (y1 - 32))))])]⟩) kr kr kr kr (ni (bn ?_))
   exact next_step (s':=stsFold_J1 x4 (b60013000_0.set (x4).toNat (IntKind.wrap .u8 (y1 - 32)))) (tw [.clo 60013000, .rn [(60013000, 60052000)]] (wr [] (es (es er_nil)) (bt_ (R:=(b60013000_0.set (x4).toNat (IntKind.wrap .u8 (y1 - 32))).map cU8) (set_map (l:=b60013000_0) (k:=(x4).toNat) (x:=(IntKind.wrap .u8 (y1 - 32))) (fun _ => rfl)) br_nil))) (OK_sFold_J1 x4 (b60013000_0.set (x4).toNat (IntKind.wrap .u8 (y1 - 32))) _ h)
   exact ki (bn (next_step (s':=stsFold_J1 x4 (b60013000_0.set (x4).toNat y1)) (tw [.clo 60013000, .rn [(60013000, 60052000)]] (wr [] (es (es er_nil)) (bt_ (R:=(b60013000_0.set (x4).toNat y1).map cU8) (set_map (l:=b60013000_0) (k:=(x4).toNat) (x:=y1) (fun _ => rfl)) br_nil))) (OK_sFold_J1 x4 (b60013000_0.set (x4).toNat y1) _ h)))
   exact ei (te (te (bh (next_step (s':=stsFold_J2 b60013000_0) (tw [.frz [60013000]] (wr [] (es er_nil) br_nil)) (OK_sFold_J2 b60013000_0 _ h)))))
theorem OK_sFold_J1 (x4:Int) (b60052000_0:(List Int)) (r:(List UInt8)) (h:sFold_J1 x4 b60052000_0 = some r):avc Tryz.prog acsFold_J1 (qsFold_2 r) (stsFold_J1 x4 b60052000_0):=(OKs_sFold_J1).1 x4 b60052000_0 r h
theorem OK_sFold_L0 (x4:Int) (b60013000_0:(List Int)) (r:(List UInt8)) (h:sFold_L0 x4 b60013000_0 = some r):avc Tryz.prog acsFold_L0 (qsFold_1 r) (stsFold_L0 x4 b60013000_0):=(OKs_sFold_J1).2 x4 b60013000_0 r h
theorem OK_sFold (p0:(List UInt8)):FOk Tryz.prog 92 [(vS p0)] (fun y => (vS y)) (sFold p0):=by
 intro r h
 rw [sFold] at h
 refine aof trsFold ?_
 show avc Tryz.prog acsFold (qsFold _) ⟨[(0,(vS p0))], []⟩
 delta acsFold
 refine so ?_
 let a0:St:=⟨[(2,(vS [])),(0,(vS p0))], []⟩
 refine st 1 a0 (nx (so ?_))
 let a1:St:=a0.p [(5,(vS p0))]
 refine st 1 a1 (csb_step (b:=p0) (s':=⟨(6,(.tre 6)) :: a1.env, [(6, [(.trc 1 ((toBytes p0).map cU8))])]⟩) kr kr kr ?_)
 let a2:St:=⟨(3,(.tre 6)) :: (6,(.tre 6)) :: a1.env, [(6, [(.trc 1 ((toBytes p0).map cU8))])]⟩
 refine st 1 a2 (nx (si (so ?_)))
 let a3:St:=a2.p [(4,(vI 0))]
 exact st 1 a3 (nx (bi (loop_go (s':=stsFold_L0 0 (toBytes p0)) (tw [.rn [(6, 60013000)]] (wr [] (es (es er_nil)) (bs_ br_nil))) (OK_sFold_L0 0 (toBytes p0) _ h))))
theorem OKs_sL1Bytes_L0 (p1:Int):(∀ (x5:(List Int)) (x6:Int) (b1000000_0:(List Int)) (b1000000_1:Int) (b1000000_2:Int) (r:(List Int) × GL1Cur), sL1Bytes_L0 p1 x5 x6 b1000000_0 b1000000_1 b1000000_2 = some r → avc Tryz.prog acsL1Bytes_L0 (qsL1Bytes_1 r) (stsL1Bytes_L0 p1 x5 x6 b1000000_0 b1000000_1 b1000000_2)):=by
 refine sL1Bytes_L0.partial_correctness p1 (fun x5 x6 b1000000_0 b1000000_1 b1000000_2 r => avc Tryz.prog acsL1Bytes_L0 (qsL1Bytes_1 r) (stsL1Bytes_L0 p1 x5 x6 b1000000_0 b1000000_1 b1000000_2)) ?_
 · intro F_sL1Bytes_L0 OK_sL1Bytes_L0 x5 x6 b1000000_0 b1000000_1 b1000000_2 r h
   delta acsL1Bytes_L0
   refine loop_unroll (si (so ?_))
   let a3:St:=(stsL1Bytes_L0 p1 x5 x6 b1000000_0 b1000000_1 b1000000_2).p [(10,(vB (decide (x6 < p1)))),(9,(vI p1)),(8,(vI x6))]
   refine st 3 a3 (nx ?_)
   refine cd h (fun h => ?_) fun h => ?_
   refine ki (xi (si (bi (oi ?_))))
   let a4:St:=a3.p [(14,(.ptr 1000000 0)),(13,(.osl 5 5 1 (x5.map cU8)))]
   refine st 2 a4 (callg_step ⟨[(1000000, 1000000)], [], [], [], [], [], [], [], []⟩ (m:=sL1Byte (GL1Cur.mk b1000000_0 b1000000_1 b1000000_2)) (S':=fun (y:Int × GL1Cur) => ⟨(15,(vI y.1)) :: a4.env, [(1000000, bGL1Cur y.2)]⟩) h (OK_sL1Byte (GL1Cur.mk b1000000_0 b1000000_1 b1000000_2)) kr kr kr kr (fun y => by kernel_rfl) (fun y => by kernel_rfl) ?_)
   clear h; intro y1 h
   let a5:St:=⟨(16,(.d (.i .u8 (IntKind.wrap .u8 y1.1)))) :: (15,(vI y1.1)) :: a4.env, [(1000000, bGL1Cur y1.2)]⟩
   refine st 1 a5 (bsl_step (l:=([(IntKind.wrap .u8 y1.1)]:List Int)) (f:=cU8) (g:=cU8) kr (fun _ => rfl) kr ?_)
   refine app_step (t:=5) (l:=x5) (m:=([(IntKind.wrap .u8 y1.1)]:List Int)) (f:=cU8) (S':=fun y => ⟨[(18,(.osl 18 5 1 (y.map cU8))),(17,(.osl 17 5 1 (([(IntKind.wrap .u8 y1.1)]:List Int).map cU8))),(16,(.d (.i .u8 (IntKind.wrap .u8 y1.1)))),(15,(vI y1.1)),(14,(.ptr 1000000 0)),(13,(.d (.sl 1 (x5.map cU8)))),(10,(vB (decide (x6 < p1)))),(9,(vI p1)),(8,(vI x6)),(0,(.ptr 1000000 0)),(1,(vI p1)),(5,(.d (.sl 1 (x5.map cU8)))),(6,(vI x6))], [(1000000, bGL1Cur y1.2)]⟩) h kr kr kr kr (fun y => by kernel_rfl) ?_
   clear h; intro y2 h
   let a6:St:=⟨[(5,(.osl 5 5 1 (y2.map cU8))),(18,(.d (.sl 1 (y2.map cU8)))),(17,(.osl 17 5 1 (([(IntKind.wrap .u8 y1.1)]:List Int).map cU8))),(16,(.d (.i .u8 (IntKind.wrap .u8 y1.1)))),(15,(vI y1.1)),(14,(.ptr 1000000 0)),(13,(.d (.sl 1 (x5.map cU8)))),(10,(vB (decide (x6 < p1)))),(9,(vI p1)),(8,(vI x6)),(0,(.ptr 1000000 0)),(1,(vI p1)),(5,(.d (.sl 1 (x5.map cU8)))),(6,(vI x6))], [(1000000, bGL1Cur y1.2)]⟩
   refine st 1 a6 (ni (bn (xi (oi ?_))))
   let a7:St:=a6.p [(6,(vI (IntKind.wrap .i64 (x6 + 1)))),(12,(vI (IntKind.wrap .i64 (x6 + 1)))),(11,(vI x6))]
   exact st 3 a7 (ni (loop_back (s':=stsL1Bytes_L0 p1 y2 (IntKind.wrap .i64 (x6 + 1)) y1.2.b y1.2.i y1.2.h) (wr [(5, .old 5)] (es (es (eo 5 (es er_nil)))) (bs_ br_nil)) (OK_sL1Bytes_L0 y2 (IntKind.wrap .i64 (x6 + 1)) y1.2.b y1.2.i y1.2.h _ h)))
   refine ei (te (te (bh (xi (so ?_)))))
   let a8:St:=⟨[(4,(.osl 4 5 1 (x5.map cU8))),(19,(.d (.sl 1 (x5.map cU8)))),(10,(vB (decide (x6 < p1)))),(9,(vI p1)),(8,(vI x6)),(0,(.ptr 1000000 0)),(1,(vI p1)),(5,(.d (.sl 1 (x5.map cU8)))),(6,(vI x6))], [(1000000, bGL1Cur (GL1Cur.mk b1000000_0 b1000000_1 b1000000_2))]⟩
   refine st 2 a8 (nx ?_)
   refine ret_wk (s':=⟨[(4,(.osl 2000000 5 1 (x5.map cU8)))], [(1000000, bGL1Cur (GL1Cur.mk b1000000_0 b1000000_1 b1000000_2))]⟩) (wr [(2000000, .old 4)] (eo 4 er_nil) (br_cons (c0:=[(.d (.sl 1 (b1000000_0.map cU8))),(vI b1000000_1),(vI b1000000_2)]) kr (vrs_cons (vr_same kr kr) (vrs_cons (vr_same kr kr) (vrs_cons (vr_same kr kr) (vrs_nil)))) br_nil)) ?_
   injection h with h; subst h
   exact ret1_step (v:=(.osl 2000000 5 1 (x5.map cU8))) kr kr ⟨by kernel_rfl, by kernel_rfl, trivial⟩
theorem OK_sL1Bytes_L0 (p1:Int) (x5:(List Int)) (x6:Int) (b1000000_0:(List Int)) (b1000000_1:Int) (b1000000_2:Int) (r:(List Int) × GL1Cur) (h:sL1Bytes_L0 p1 x5 x6 b1000000_0 b1000000_1 b1000000_2 = some r):avc Tryz.prog acsL1Bytes_L0 (qsL1Bytes_1 r) (stsL1Bytes_L0 p1 x5 x6 b1000000_0 b1000000_1 b1000000_2):=(OKs_sL1Bytes_L0 p1) x5 x6 b1000000_0 b1000000_1 b1000000_2 r h
theorem OK_sL1Bytes (p0:GL1Cur) (p1:Int):FOkB Tryz.prog 91 [(.ptr 1000000 0),(vI p1)] [(1000000, bGL1Cur p0)] (fun (y:(List Int) × GL1Cur) => (.osl 2000000 5 1 (y.1.map cU8))) (fun (y:(List Int) × GL1Cur) => [(1000000, bGL1Cur y.2)]) (sL1Bytes p0 p1):=by
 intro r h
 rw [sL1Bytes] at h
 refine acalls_of_fn trsL1Bytes (Nat.le_of_ble_eq_true rfl) (by intro n hn; simp at hn; simp only [NX]; omega) ?_
 show avc Tryz.prog acsL1Bytes (qsL1Bytes _) ⟨[(0,(.ptr 1000000 0)),(1,(vI p1))], [(1000000, bGL1Cur p0)]⟩
 delta acsL1Bytes
 refine so ?_
 let a0:St:=⟨[(4,(.nil 1)),(0,(.ptr 1000000 0)),(1,(vI p1))], [(1000000, bGL1Cur p0)]⟩
 refine st 1 a0 (nx (so (bsl_step (l:=([]:List Int)) (f:=cU8) (g:=cU8) kr (fun _ => rfl) kr ?_)))
 let a1:St:=a0.p [(5,(.osl 5 5 1 (([]:List Int).map cU8))),(7,(.d (.sl 1 (([]:List Int).map cU8))))]
 refine st 1 a1 (nx (si (so ?_)))
 let a2:St:=a1.p [(6,(vI 0))]
 exact st 1 a2 (nx (bi (loop_go (s':=stsL1Bytes_L0 p1 ([]:List Int) 0 p0.b p0.i p0.h) (wr [(5, .old 5)] (es (es (eo 5 (es er_nil)))) (bs_ br_nil)) (OK_sL1Bytes_L0 p1 ([]:List Int) 0 p0.b p0.i p0.h _ h))))
theorem OK_sL1Pick (p0:GL1Cur) (p1:(List (List UInt8))):FOkB Tryz.prog 89 [(.ptr 1000000 0),(.d (.sl 1 (p1.map cStr)))] [(1000000, bGL1Cur p0)] (fun (y:(List UInt8) × GL1Cur) => (vS y.1)) (fun (y:(List UInt8) × GL1Cur) => [(1000000, bGL1Cur y.2)]) (sL1Pick p0 p1):=by
 intro r h
 rw [sL1Pick] at h
 refine acalls_of_fn trsL1Pick (Nat.le_of_ble_eq_true rfl) (by intro n hn; simp at hn; simp only [NX]; omega) ?_
 show avc Tryz.prog acsL1Pick (qsL1Pick _) ⟨[(0,(.ptr 1000000 0)),(1,(.d (.sl 1 (p1.map cStr))))], [(1000000, bGL1Cur p0)]⟩
 delta acsL1Pick
 refine so ?_
 let a0:St:=⟨[(4,(vS [])),(0,(.ptr 1000000 0)),(1,(.d (.sl 1 (p1.map cStr))))], [(1000000, bGL1Cur p0)]⟩
 refine st 1 a0 (nx (so ?_))
 let a1:St:=a0.p [(7,(.d (.sl 1 (p1.map cStr)))),(6,(.ptr 1000000 0)),(5,(.d (.sl 1 (p1.map cStr))))]
 refine st 3 a1 (ps (vI (ln p1)) (vln (sz:=1) (l:=p1) (f:=cStr)) ?_)
 refine callg_step ⟨[(1000000, 1000000)], [], [], [], [], [], [], [], []⟩ (m:=sL1Below p0 (ln p1)) (S':=fun (y:Int × GL1Cur) => ⟨(9,(vI y.1)) :: (8,(vI (ln p1))) :: a1.env, [(1000000, bGL1Cur y.2)]⟩) h (OK_sL1Below p0 (ln p1)) kr kr kr kr (fun y => by kernel_rfl) (fun y => by kernel_rfl) ?_
 clear h; intro y1 h
 refine vs (fun (y:(List UInt8)) => (.rp [(.s (bs y))])) h (fun y hy => via (l:=p1) (f:=cStr) (g:=cStr) (k:=.i64) hy (fun _ => rfl)) fun y2 h => ?_
 let a2:St:=⟨(4,(vS y2)) :: (11,(vS y2)) :: (10,(.rp [(.s (bs y2))])) :: (9,(vI y1.1)) :: (8,(vI (ln p1))) :: a1.env, [(1000000, bGL1Cur y1.2)]⟩
 refine st 2 a2 (nx (ri ?_))
 injection h with h; subst h
 exact ret1_step (v:=(vS y2)) kr kr ⟨by kernel_rfl, by kernel_rfl, trivial⟩
theorem OK_sL1Once (p0:GL1Cur) (p1:Int):FOkB Tryz.prog 60 [(.ptr 1000000 0),(vI p1)] [(1000000, bGL1Cur p0)] (fun (y:Bool × GL1Cur) => (vB y.1)) (fun (y:Bool × GL1Cur) => [(1000000, bGL1Cur y.2)]) (sL1Once p0 p1):=by
 intro r h
 rw [sL1Once] at h
 refine acalls_of_fn trsL1Once (Nat.le_of_ble_eq_true rfl) (by intro n hn; simp at hn; simp only [NX]; omega) ?_
 show avc Tryz.prog acsL1Once (qsL1Once _) ⟨[(0,(.ptr 1000000 0)),(1,(vI p1))], [(1000000, bGL1Cur p0)]⟩
 delta acsL1Once
 refine so ?_
 let a0:St:=⟨[(4,(vB false)),(0,(.ptr 1000000 0)),(1,(vI p1))], [(1000000, bGL1Cur p0)]⟩
 refine st 1 a0 (nx (so ?_))
 let a1:St:=a0.p [(6,(vI p1)),(5,(.ptr 1000000 0))]
 refine st 2 a1 (callg_step ⟨[(1000000, 1000000)], [], [], [], [], [], [], [], []⟩ (m:=sL1Below p0 p1) (S':=fun (y:Int × GL1Cur) => ⟨(7,(vI y.1)) :: a1.env, [(1000000, bGL1Cur y.2)]⟩) h (OK_sL1Below p0 p1) kr kr kr kr (fun y => by kernel_rfl) (fun y => by kernel_rfl) ?_)
 clear h; intro y1 h
 let a2:St:=⟨(4,(vB (decide (y1.1 = 0)))) :: (8,(vB (decide (y1.1 = 0)))) :: (7,(vI y1.1)) :: a1.env, [(1000000, bGL1Cur y1.2)]⟩
 refine st 2 a2 (nx (ri ?_))
 injection h with h; subst h
 exact ret1_step (v:=(vB (decide (y1.1 = 0)))) kr kr ⟨by kernel_rfl, by kernel_rfl, trivial⟩
theorem OK_sL3Source_J3 (x3_24:(List UInt8)) (b1000000_0_25:(List Int)) (b1000000_1_26:Int) (b1000000_2_27:Int) (r:(List UInt8) × GL1Cur) (h:sL3Source_J3 x3_24 b1000000_0_25 b1000000_1_26 b1000000_2_27 = some r):avc Tryz.prog acsL3Source_J3 (qsL3Source r) (stsL3Source_J3 x3_24 b1000000_0_25 b1000000_1_26 b1000000_2_27):=by
 rw [sL3Source_J3] at h
 delta acsL3Source_J3
 refine so ?_
 let a31:St:=(stsL3Source_J3 x3_24 b1000000_0_25 b1000000_1_26 b1000000_2_27).p [(2,(vS x3_24)),(66,(vS x3_24))]
 refine st 2 a31 (nx (ri ?_))
 injection h with h; subst h
 exact ret1_step (v:=(vS x3_24)) kr kr ⟨by kernel_rfl, by kernel_rfl, trivial⟩
theorem OKs_sL3Source_L2 (y22:Bool × GL1Cur):(∀ (x3_23:(List UInt8)) (r:(List UInt8) × GL1Cur), sL3Source_L2 y22 x3_23 = some r → avc Tryz.prog acsL3Source_L2 (qsL3Source_4 r) (stsL3Source_L2 y22 x3_23)):=by
 refine sL3Source_L2.partial_correctness y22 (fun x3_23 r => avc Tryz.prog acsL3Source_L2 (qsL3Source_4 r) (stsL3Source_L2 y22 x3_23)) ?_
 · intro F_sL3Source_L2 OK_sL3Source_L2 x3_23 r h
   delta acsL3Source_L2
   refine loop_unroll (si (so ?_))
   let a25:St:=(stsL3Source_L2 y22 x3_23).p [(58,(vB (decide ((ln x3_23) < 2001)))),(57,(vI (ln x3_23))),(56,(vS x3_23))]
   refine st 3 a25 (nx ?_)
   refine cd h (fun h => ?_) fun h => ?_
   refine ki (xi (bi (oi ?_)))
   let a26:St:=a25.p [(59,(vS x3_23))]
   refine st 1 a26 (vs (fun (y:(List UInt8)) => (vS y)) h (fun y hy => vop_cat (a:=x3_23) (b:=[32, 32, 32, 32, 32, 32, 32, 32, 32, 32, 32, 32, 32, 32, 32, 32, 32, 32, 32, 32]) hy kr kr kr) fun y28 h => ?_)
   let a27:St:=a26.p [(3,(vS y28)),(60,(vS y28))]
   exact st 1 a27 (ni (bn (loop_back (s':=stsL3Source_L2 y22 y28) (wr [] (es (es er_nil)) (bs_ br_nil)) (OK_sL3Source_L2 y28 _ h))))
   refine ei (te (te (bh (xi (oi ?_)))))
   let a28:St:=a25.p [(62,(.ptr 1000000 0)),(61,(vS x3_23))]
   refine st 2 a28 (callg_step ⟨[(1000000, 1000000)], [], [], [], [], [], [], [], []⟩ (m:=sL1Below y22.2 2) (S':=fun (y:Int × GL1Cur) => ⟨(63,(vI y.1)) :: a28.env, [(1000000, bGL1Cur y.2)]⟩) h (OK_sL1Below y22.2 2) kr kr kr kr (fun y => by kernel_rfl) (fun y => by kernel_rfl) ?_)
   clear h; intro y29 h
   let a29:St:=⟨(64,(vI (IntKind.wrap .i64 (2000 + y29.1)))) :: (63,(vI y29.1)) :: a28.env, [(1000000, bGL1Cur y29.2)]⟩
   refine st 1 a29 (vs (fun (y:(List UInt8)) => (vS y)) h (fun y hy => vop_sls (b:=x3_23) (lo:=0) (hi:=(IntKind.wrap .i64 (2000 + y29.1))) hy kr kr ⟨kr, .i64, kr⟩ rfl) fun y30 h => ?_)
   let a30:St:=a29.p [(3,(vS y30)),(65,(vS y30))]
   exact st 1 a30 (ni (next_step (s':=stsL3Source_J3 y30 y29.2.b y29.2.i y29.2.h) (wr [] (es er_nil) (bs_ br_nil)) (OK_sL3Source_J3 y30 y29.2.b y29.2.i y29.2.h _ h)))
theorem OK_sL3Source_L2 (y22:Bool × GL1Cur) (x3_23:(List UInt8)) (r:(List UInt8) × GL1Cur) (h:sL3Source_L2 y22 x3_23 = some r):avc Tryz.prog acsL3Source_L2 (qsL3Source_4 r) (stsL3Source_L2 y22 x3_23):=(OKs_sL3Source_L2 y22) x3_23 r h
theorem OK_sL3Source_J1 (x3_10:(List UInt8)) (b1000000_0_11:(List Int)) (b1000000_1_12:Int) (b1000000_2_13:Int) (r:(List UInt8) × GL1Cur) (h:sL3Source_J1 x3_10 b1000000_0_11 b1000000_1_12 b1000000_2_13 = some r):avc Tryz.prog acsL3Source_J1 (qsL3Source r) (stsL3Source_J1 x3_10 b1000000_0_11 b1000000_1_12 b1000000_2_13):=by
 rw [sL3Source_J1] at h
 delta acsL3Source_J1
 refine si (so ?_)
 let a24:St:=(stsL3Source_J1 x3_10 b1000000_0_11 b1000000_1_12 b1000000_2_13).p [(54,(.ptr 1000000 0))]
 refine st 1 a24 ?_
 refine callg_step ⟨[(1000000, 1000000)], [], [], [], [], [], [], [], []⟩ (m:=sL1Once (GL1Cur.mk b1000000_0_11 b1000000_1_12 b1000000_2_13) 60) (S':=fun (y:Bool × GL1Cur) => ⟨(55,(vB y.1)) :: a24.env, [(1000000, bGL1Cur y.2)]⟩) h (OK_sL1Once (GL1Cur.mk b1000000_0_11 b1000000_1_12 b1000000_2_13) 60) kr kr kr kr (fun y => by kernel_rfl) (fun y => by kernel_rfl) ?_
 clear h; intro y22 h
 refine nx ?_
 refine cd h (fun h => ?_) fun h => ?_
 exact si (bi (loop_go (s':=stsL3Source_L2 y22 x3_10) (wr [] (es (es er_nil)) (bs_ br_nil)) (OK_sL3Source_L2 y22 x3_10 _ h)))
 exact ki (next_step (s':=stsL3Source_J3 x3_10 y22.2.b y22.2.i y22.2.h) (wr [] (es er_nil) (bs_ br_nil)) (OK_sL3Source_J3 x3_10 y22.2.b y22.2.i y22.2.h _ h))
theorem OKs_sDigits_J1 (p0:Int):(∀ (x0:Int) (x4:(List UInt8)) (x5:Int) (r:(List UInt8)), sDigits_J1 x0 p0 x4 x5 = some r → avc Tryz.prog acsDigits_J1 (qsDigits_3 r) (stsDigits_J1 x0 p0 x4 x5)) ∧ (∀ (x0:Int) (x4:(List UInt8)) (r:(List UInt8)), sDigits_L0 p0 x0 x4 = some r → avc Tryz.prog acsDigits_L0 (qsDigits_1 r) (stsDigits_L0 p0 x0 x4)):=by
 refine sDigits_J1.mutual_partial_correctness p0 (fun x0 x4 x5 r => avc Tryz.prog acsDigits_J1 (qsDigits_3 r) (stsDigits_J1 x0 p0 x4 x5)) (fun x0 x4 r => avc Tryz.prog acsDigits_L0 (qsDigits_1 r) (stsDigits_L0 p0 x0 x4)) ?_ ?_
 · intro F_sDigits_L0 OK_sDigits_L0 x0 x4 x5 r h
   delta acsDigits_J1
   refine so ?_
   let a13:St:=(stsDigits_J1 x0 p0 x4 x5).p [(20,(.d (.i .u8 (IntKind.wrap .u8 (IntKind.wrap .i64 (48 + x5)))))),(19,(vI (IntKind.wrap .i64 (48 + x5)))),(18,(vI x5))]
   refine st 3 a13 (bsl_step (l:=([(IntKind.wrap .u8 (IntKind.wrap .i64 (48 + x5)))]:List Int)) (f:=cU8) (g:=cU8) kr (fun _ => rfl) kr (vs (fun (y:(List UInt8)) => (vS y)) h (fun y hy => vop_cbs (l:=([(IntKind.wrap .u8 (IntKind.wrap .i64 (48 + x5)))]:List Int)) hy kr kr) fun y2 h => ?_))
   let a14:St:=a13.p [(23,(vS x4)),(22,(vS y2)),(21,(.osl 21 5 1 (([(IntKind.wrap .u8 (IntKind.wrap .i64 (48 + x5)))]:List Int).map cU8)))]
   refine st 1 a14 (vs (fun (y:(List UInt8)) => (vS y)) h (fun y hy => vop_cat (a:=y2) (b:=x4) hy kr kr kr) fun y3 h => ?_)
   let a15:St:=a14.p [(4,(vS y3)),(24,(vS y3))]
   refine st 1 a15 (nx (oi ?_))
   let a16:St:=a15.p [(0,(vI (IntKind.wrap .i64 (Int.tdiv x0 10)))),(26,(vI (IntKind.wrap .i64 (Int.tdiv x0 10)))),(25,(vI x0))]
   exact st 3 a16 (ni (bn (loop_back (s':=stsDigits_L0 p0 (IntKind.wrap .i64 (Int.tdiv x0 10)) y3) (wr [] (es (es (es er_nil))) br_nil) (OK_sDigits_L0 (IntKind.wrap .i64 (Int.tdiv x0 10)) y3 _ h))))
 · intro F_sDigits_J1 OK_sDigits_J1 x0 x4 r h
   delta acsDigits_L0
   refine loop_unroll (si (so ?_))
   let a5:St:=(stsDigits_L0 p0 x0 x4).p [(11,(vB (!decide (x0 = 0)))),(10,(vI x0))]
   refine st 2 a5 (nx ?_)
   refine cd h (fun h => ?_) fun h => ?_
   refine ki (xi (bi (so ?_)))
   let a6:St:=a5.p [(5,(vI (Int.tmod x0 10))),(13,(vI (Int.tmod x0 10))),(12,(vI x0))]
   refine st 3 a6 (nx (si (so ?_)))
   let a7:St:=a6.p [(15,(vB (decide ((Int.tmod x0 10) < 0)))),(14,(vI (Int.tmod x0 10)))]
   refine st 2 a7 (nx ?_)
   refine cd h (fun h => ?_) fun h => ?_
   refine oi ?_
   let a8:St:=a7.p [(5,(vI (IntKind.wrap .i64 (0 - (Int.tmod x0 10))))),(17,(vI (IntKind.wrap .i64 (0 - (Int.tmod x0 10))))),(16,(vI (Int.tmod x0 10)))]
   exact st 3 a8 (ni (next_step (s':=stsDigits_J1 x0 p0 x4 (IntKind.wrap .i64 (0 - (Int.tmod x0 10)))) (wr [] (es (es (es (es er_nil)))) br_nil) (OK_sDigits_J1 x0 x4 (IntKind.wrap .i64 (0 - (Int.tmod x0 10))) _ h)))
   exact ki (next_step (s':=stsDigits_J1 x0 p0 x4 (Int.tmod x0 10)) (wr [] (es (es (es (es er_nil)))) br_nil) (OK_sDigits_J1 x0 x4 (Int.tmod x0 10) _ h))
   refine ei (te (te (bh (xi (si (so ?_))))))
   let a9:St:=a5.p [(27,(vB (decide (p0 < 0))))]
   refine st 1 a9 (nx ?_)
   refine cd h (fun h => ?_) fun h => ?_
   refine so ?_
   let a10:St:=a9.p [(28,(vS x4))]
   refine st 1 a10 (vs (fun (y:(List UInt8)) => (vS y)) h (fun y hy => vop_cat (a:=[45]) (b:=x4) hy kr kr kr) fun y1 h => ?_)
   let a11:St:=a10.p [(2,(vS y1)),(29,(vS y1))]
   refine st 1 a11 (nx (ri (tr ?_)))
   injection h with h; subst h
   exact r1 (v:=(vS y1))
   refine ki (xi (so ?_))
   let a12:St:=a9.p [(2,(vS x4)),(30,(vS x4))]
   refine st 2 a12 (nx (ri ?_))
   injection h with h; subst h
   exact r1 (v:=(vS x4))
theorem OK_sDigits_J1 (x0:Int) (p0:Int) (x4:(List UInt8)) (x5:Int) (r:(List UInt8)) (h:sDigits_J1 x0 p0 x4 x5 = some r):avc Tryz.prog acsDigits_J1 (qsDigits_3 r) (stsDigits_J1 x0 p0 x4 x5):=(OKs_sDigits_J1 p0).1 x0 x4 x5 r h
theorem OK_sDigits_L0 (p0:Int) (x0:Int) (x4:(List UInt8)) (r:(List UInt8)) (h:sDigits_L0 p0 x0 x4 = some r):avc Tryz.prog acsDigits_L0 (qsDigits_1 r) (stsDigits_L0 p0 x0 x4):=(OKs_sDigits_J1 p0).2 x0 x4 r h
theorem OK_sDigits (p0:Int):FOk Tryz.prog 129 [(vI p0)] (fun y => (vS y)) (sDigits p0):=by
 intro r h
 rw [sDigits] at h
 refine aof trsDigits ?_
 show avc Tryz.prog acsDigits (qsDigits _) ⟨[(0,(vI p0))], []⟩
 delta acsDigits
 refine so ?_
 let a0:St:=⟨[(2,(vS [])),(0,(vI p0))], []⟩
 refine st 1 a0 (nx (si (so ?_)))
 let a1:St:=a0.p [(7,(vB (decide (p0 = 0)))),(6,(vI p0))]
 refine st 2 a1 (nx ?_)
 refine cd h (fun h => ?_) fun h => ?_
 refine so ?_
 let a2:St:=a1.p [(2,(vS [48]))]
 refine st 1 a2 (nx (ri (tr ?_)))
 injection h with h; subst h
 exact r1 (v:=(vS [48]))
 refine ki (xi (so ?_))
 let a3:St:=a1.p [(3,(vB (decide (p0 < 0)))),(9,(vB (decide (p0 < 0)))),(8,(vI p0))]
 refine st 3 a3 (nx (so ?_))
 let a4:St:=a3.p [(4,(vS []))]
 exact st 1 a4 (nx (si (bi (loop_go (s':=stsDigits_L0 p0 p0 []) (wr [] (es (es (es er_nil))) br_nil) (OK_sDigits_L0 p0 p0 [] _ h)))))
theorem OK_sL1Max (p0:Int) (p1:Int):FOk Tryz.prog 130 [(vI p0),(vI p1)] (fun y => (vI y)) (sL1Max p0 p1):=by
 intro r h
 rw [sL1Max] at h
 refine aof trsL1Max ?_
 show avc Tryz.prog acsL1Max (qsL1Max _) ⟨[(0,(vI p0)),(1,(vI p1))], []⟩
 delta acsL1Max
 refine so ?_
 let a0:St:=⟨[(4,(vI 0)),(0,(vI p0)),(1,(vI p1))], []⟩
 refine st 1 a0 (nx (si (so ?_)))
 let a1:St:=a0.p [(7,(vB (decide (p1 < p0)))),(6,(vI p1)),(5,(vI p0))]
 refine st 3 a1 (nx ?_)
 refine cd h (fun h => ?_) fun h => ?_
 refine so ?_
 let a2:St:=a1.p [(4,(vI p0)),(8,(vI p0))]
 refine st 2 a2 (nx (ri (tr ?_)))
 injection h with h; subst h
 exact r1 (v:=(vI p0))
 refine ki (xi (so ?_))
 let a3:St:=a1.p [(4,(vI p1)),(9,(vI p1))]
 refine st 2 a3 (nx (ri ?_))
 injection h with h; subst h
 exact r1 (v:=(vI p1))
end Go.Proofs.YtechmmnknmdacaaGreatDoor
