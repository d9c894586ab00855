/- That the code computes these functions (printed by a program). -/
import Derived.KernelRfl
import Derived.Test.YtlohdmekmmjjlaaAbG2
import Derived.Test.YtlohdmekmmjjlaaAbC2
import Derived.Test.YtlohdmekmmjjlaaFExactDbOk
import Derived.Test.YtlohdmekmmjjlaaProg
namespace Go.Proofs.Ytlohdmekmmjjlaa
open Go Go.RowKit Go.Ab
def cI (n : Int) : List D := [.i .i64 n]
def cU8 (n : Int) : List D := [.i .u8 n]
def cU64 (n : Int) : List D := [.i .u64 n]
def cI32 (n : Int) : List D := [.i .i32 n]
def cU32 (n : Int) : List D := [.i .u32 n]
def cB (b : Bool) : List D := [.b b]
def cStr (s : List UInt8) : List D := [.s (bs s)]
def cSl {α : Type} (sz : Nat) (f : α → List D) (l : List α) : List D := [.sl sz (l.map f)]
def cGCol (x : GCol) : List D := [(.s (bs x.name)), (.i .i64 x.type)]
def vGCol (x : GCol) : V := .agg (cGCol x)
def bGCol (x : GCol) : List V := (cGCol x).map V.d
def cGTable (x : GTable) : List D := [(.s (bs x.name)), (.sl 2 (x.cols.map cGCol))]
def vGTable (x : GTable) : V := .agg (cGTable x)
def bGTable (x : GTable) : List V := (cGTable x).map V.d
def cGCatalog (x : GCatalog) : List D := [(.sl 2 (x.tables.map cGTable))]
def vGCatalog (x : GCatalog) : V := .agg (cGCatalog x)
def bGCatalog (x : GCatalog) : List V := (cGCatalog x).map V.d
def cGValue (x : GValue) : List D := [(.i .i64 x.kind), (.i .i64 x.num), (.s (bs x.text))]
def vGValue (x : GValue) : V := .agg (cGValue x)
def bGValue (x : GValue) : List V := (cGValue x).map V.d
def cGData (x : GData) : List D := [(.sl 1 (x.rows.map (cSl 3 cGValue)))]
def vGData (x : GData) : V := .agg (cGData x)
def bGData (x : GData) : List V := (cGData x).map V.d
def cGDb (x : GDb) : List D := [(.sl 1 (x.tables.map cGData))]
def vGDb (x : GDb) : V := .agg (cGDb x)
def bGDb (x : GDb) : List V := (cGDb x).map V.d
def acwFnExactDbOk : AC := (.seq (.ops [.box 2 (.t 0), .box 3 (.t 1), .asg 4 (.c (.d (.b false)))]) (.seq (.ops [.asg 5 (.c (.d (.i .i64 1048576)))]) (.seq (.ops [.ld 10 1 true (.t 2), .mv 11 (.t 5), .call (some 12) 39 [(.t 10), (.t 11)], .asg 5 (.t 12)]) (.seq (.seq (.ops [.mv 13 (.t 5), .bin 14 .lss (.t 13) (.c (.d (.i .i64 0)))]) (.cond (.t 14) (.seq (.ops [.asg 4 (.c (.d (.b true)))]) .ret) .skip)) (.seq (.ops [.ld 15 1 true (.t 3), .mv 16 (.t 5), .call (some 17) 40 [(.t 15), (.t 16)], .asg 5 (.t 17)]) (.seq (.seq (.ops [.mv 18 (.t 5), .bin 19 .lss (.t 18) (.c (.d (.i .i64 0)))]) (.cond (.t 19) (.seq (.ops [.asg 4 (.c (.d (.b true)))]) .ret) .skip)) (.seq (.dops [[], [0], [], [2, 1], [1, 3, 3], [4, 4, 0, 1, 2, 3, 4]] [.ld 20 1 true (.t 2), .call (some 21) 42 [(.t 20)], .ld 22 1 true (.t 3), .call (some 23) 43 [(.t 22)], .call (some 24) 41 [(.t 21), (.t 23)], .asg 6 (.t 24)]) (.seq (.ops [.ld 25 1 true (.t 2), .call (some 26) 42 [(.t 25)], .alc 7 [(.nil 2)], .st 1 (.t 7) (.t 26)]) (.seq (.ops [.ld 27 1 true (.t 3), .call (some 28) 43 [(.t 27)], .alc 8 [(.nil 1)], .st 1 (.t 8) (.t 28)]) (.seq (.ops [.ld 29 1 true (.t 7), .ld 30 1 true (.t 8), .call (some 31) 44 [(.t 29), (.t 30)], .asg 9 (.t 31)]) (.seq (.seq (.ops [.mv 32 (.t 9), .mv 33 (.t 6), .eqb 34 true (.t 32) (.t 33)]) (.cond (.t 34) (.seq (.ops [.asg 4 (.c (.d (.b false)))]) .ret) .skip)) (.seq (.seq (.dops [[], [], [1], [0, 2, 2], [3]] [.ld 35 1 true (.t 7), .ld 36 1 true (.t 2), .call (some 37) 42 [(.t 36)], .call (some 38) 45 [(.t 35), (.t 37)], .not 39 (.t 38)]) (.cond (.t 39) (.seq (.ops [.asg 4 (.c (.d (.b false)))]) .ret) .skip)) (.seq (.seq (.dops [[], [], [1], [0, 2, 2], [3]] [.ld 40 1 true (.t 8), .ld 41 1 true (.t 3), .call (some 42) 43 [(.t 41)], .call (some 43) 46 [(.t 40), (.t 42)], .not 44 (.t 43)]) (.cond (.t 44) (.seq (.ops [.asg 4 (.c (.d (.b false)))]) .ret) .skip)) (.seq (.ops [.asg 4 (.c (.d (.b true)))]) .ret))))))))))))))
theorem trwFnExactDbOk : trFn Try.prog 8 = some (acwFnExactDbOk, [.mv 0 (.t 4)], 45) := by kernel_rfl
def qwFnExactDbOk (r : Bool) : Exit → St → Prop := retQ [.mv 0 (.t 4)] fun x _ => x = (fun y => (.d (.b y))) r
def acwSzCatalog : AC := (.seq (.ops [.box 2 (.t 0), .asg 4 (.c (.d (.i .i64 0)))]) (.seq (.ops [.fa 5 0 (.t 2), .ld 6 1 false (.t 5), .mv 7 (.t 1), .call (some 8) 80 [(.t 6), (.t 7)], .asg 1 (.t 8)]) (.seq (.seq (.ops [.mv 9 (.t 1), .bin 10 .lss (.t 9) (.c (.d (.i .i64 0)))]) (.cond (.t 10) (.seq (.ops [.asg 4 (.c (.d (.i .i64 (-1))))]) .ret) .skip)) (.seq (.ops [.mv 11 (.t 1), .asg 4 (.t 11)]) .ret))))
theorem trwSzCatalog : trFn Try.prog 39 = some (acwSzCatalog, [.mv 0 (.t 4)], 12) := by kernel_rfl
def qwSzCatalog (r : Int) : Exit → St → Prop := retQ [.mv 0 (.t 4)] fun x _ => x = (fun y => (.d (.i .i64 y))) r
def acwSzTableS_L0 : AC := (.loop (.seq (.seq (.ops [.mv 12 (.t 5), .mv 13 (.t 0), .len 14 (.t 13), .bin 15 .lss (.t 12) (.t 14)]) (.cond (.t 15) .skip (.exit 0))) (.seq (.block 1 (.seq (.ops [.mv 18 (.t 0), .mv 19 (.t 5), .ia 20 2 (.t 18) (.t 19), .ld 21 2 true (.t 20), .mv 22 (.t 1), .call (some 23) 153 [(.t 21), (.t 22)], .asg 1 (.t 23)]) (.seq (.ops [.mv 24 (.t 1), .bin 25 .lss (.t 24) (.c (.d (.i .i64 0)))]) (.cond (.t 25) (.seq (.ops [.asg 4 (.c (.d (.i .i64 (-1))))]) .ret) .skip)))) (.ops [.mv 16 (.t 5), .bin 17 .add (.t 16) (.c (.d (.i .i64 1))), .asg 5 (.t 17)]))))
def acwSzTableS : AC := (.seq (.ops [.asg 4 (.c (.d (.i .i64 0)))]) (.seq (.ops [.mv 6 (.t 1), .mv 7 (.t 0), .len 8 (.t 7), .bin 9 .sub (.t 6) (.t 8), .asg 1 (.t 9)]) (.seq (.seq (.ops [.mv 10 (.t 1), .bin 11 .lss (.t 10) (.c (.d (.i .i64 0)))]) (.cond (.t 11) (.seq (.ops [.asg 4 (.c (.d (.i .i64 (-1))))]) .ret) .skip)) (.seq (.seq (.ops [.asg 5 (.c (.d (.i .i64 0)))]) (.block 0 acwSzTableS_L0)) (.seq (.ops [.mv 26 (.t 1), .asg 4 (.t 26)]) .ret)))))
theorem trwSzTableS : trFn Try.prog 80 = some (acwSzTableS, [.mv 0 (.t 4)], 27) := by kernel_rfl
def qwSzTableS (r : Int) : Exit → St → Prop := retQ [.mv 0 (.t 4)] fun x _ => x = (fun y => (.d (.i .i64 y))) r
def qwSzTableS_0 (r : Int) : Exit → St → Prop := (thenK (wkK (avc Try.prog (.seq (.ops [.mv 26 (.t 1), .asg 4 (.t 26)]) .ret) (qwSzTableS r))) (qwSzTableS r))
def qwSzTableS_1 (r : Int) : Exit → St → Prop := (blockK 0 (qwSzTableS_0 r))
def stwSzTableS_L0 (p0 : (List GTable)) (x1 : Int) (x5 : Int) : St := ⟨[(0, (.d (.sl 2 (p0.map cGTable)))), (1, (.d (.i .i64 x1))), (5, (.d (.i .i64 x5)))], []⟩
def acwSzTable : AC := (.seq (.ops [.box 2 (.t 0), .asg 4 (.c (.d (.i .i64 0)))]) (.seq (.ops [.mv 5 (.t 1), .fa 6 0 (.t 2), .ld 7 1 false (.t 6), .lns 8 (.t 7), .bin 9 .sub (.t 5) (.t 8), .asg 1 (.t 9)]) (.seq (.seq (.ops [.mv 10 (.t 1), .bin 11 .lss (.t 10) (.c (.d (.i .i64 0)))]) (.cond (.t 11) (.seq (.ops [.asg 4 (.c (.d (.i .i64 (-1))))]) .ret) .skip)) (.seq (.ops [.fa 12 1 (.t 2), .ld 13 1 false (.t 12), .mv 14 (.t 1), .call (some 15) 195 [(.t 13), (.t 14)], .asg 1 (.t 15)]) (.seq (.seq (.ops [.mv 16 (.t 1), .bin 17 .lss (.t 16) (.c (.d (.i .i64 0)))]) (.cond (.t 17) (.seq (.ops [.asg 4 (.c (.d (.i .i64 (-1))))]) .ret) .skip)) (.seq (.ops [.mv 18 (.t 1), .asg 4 (.t 18)]) .ret))))))
theorem trwSzTable : trFn Try.prog 153 = some (acwSzTable, [.mv 0 (.t 4)], 19) := by kernel_rfl
def qwSzTable (r : Int) : Exit → St → Prop := retQ [.mv 0 (.t 4)] fun x _ => x = (fun y => (.d (.i .i64 y))) r
def acwSzColS_L0 : AC := (.loop (.seq (.seq (.ops [.mv 12 (.t 5), .mv 13 (.t 0), .len 14 (.t 13), .bin 15 .lss (.t 12) (.t 14)]) (.cond (.t 15) .skip (.exit 0))) (.seq (.block 1 (.seq (.ops [.mv 18 (.t 0), .mv 19 (.t 5), .ia 20 2 (.t 18) (.t 19), .ld 21 2 true (.t 20), .mv 22 (.t 1), .call (some 23) 215 [(.t 21), (.t 22)], .asg 1 (.t 23)]) (.seq (.ops [.mv 24 (.t 1), .bin 25 .lss (.t 24) (.c (.d (.i .i64 0)))]) (.cond (.t 25) (.seq (.ops [.asg 4 (.c (.d (.i .i64 (-1))))]) .ret) .skip)))) (.ops [.mv 16 (.t 5), .bin 17 .add (.t 16) (.c (.d (.i .i64 1))), .asg 5 (.t 17)]))))
def acwSzColS : AC := (.seq (.ops [.asg 4 (.c (.d (.i .i64 0)))]) (.seq (.ops [.mv 6 (.t 1), .mv 7 (.t 0), .len 8 (.t 7), .bin 9 .sub (.t 6) (.t 8), .asg 1 (.t 9)]) (.seq (.seq (.ops [.mv 10 (.t 1), .bin 11 .lss (.t 10) (.c (.d (.i .i64 0)))]) (.cond (.t 11) (.seq (.ops [.asg 4 (.c (.d (.i .i64 (-1))))]) .ret) .skip)) (.seq (.seq (.ops [.asg 5 (.c (.d (.i .i64 0)))]) (.block 0 acwSzColS_L0)) (.seq (.ops [.mv 26 (.t 1), .asg 4 (.t 26)]) .ret)))))
theorem trwSzColS : trFn Try.prog 195 = some (acwSzColS, [.mv 0 (.t 4)], 27) := by kernel_rfl
def qwSzColS (r : Int) : Exit → St → Prop := retQ [.mv 0 (.t 4)] fun x _ => x = (fun y => (.d (.i .i64 y))) r
def qwSzColS_0 (r : Int) : Exit → St → Prop := (thenK (wkK (avc Try.prog (.seq (.ops [.mv 26 (.t 1), .asg 4 (.t 26)]) .ret) (qwSzColS r))) (qwSzColS r))
def qwSzColS_1 (r : Int) : Exit → St → Prop := (blockK 0 (qwSzColS_0 r))
def stwSzColS_L0 (p0 : (List GCol)) (x1 : Int) (x5 : Int) : St := ⟨[(0, (.d (.sl 2 (p0.map cGCol)))), (1, (.d (.i .i64 x1))), (5, (.d (.i .i64 x5)))], []⟩
def acwSzCol : AC := (.seq (.ops [.box 2 (.t 0), .asg 4 (.c (.d (.i .i64 0)))]) (.seq (.ops [.mv 5 (.t 1), .fa 6 0 (.t 2), .ld 7 1 false (.t 6), .lns 8 (.t 7), .bin 9 .sub (.t 5) (.t 8), .asg 1 (.t 9)]) (.seq (.seq (.ops [.mv 10 (.t 1), .bin 11 .lss (.t 10) (.c (.d (.i .i64 0)))]) (.cond (.t 11) (.seq (.ops [.asg 4 (.c (.d (.i .i64 (-1))))]) .ret) .skip)) (.seq (.ops [.mv 12 (.t 1), .asg 4 (.t 12)]) .ret))))
theorem trwSzCol : trFn Try.prog 215 = some (acwSzCol, [.mv 0 (.t 4)], 13) := by kernel_rfl
def qwSzCol (r : Int) : Exit → St → Prop := retQ [.mv 0 (.t 4)] fun x _ => x = (fun y => (.d (.i .i64 y))) r
def acwToDb : AC := (.seq (.ops [.box 1 (.t 0), .alc 2 [(.nil 1)]]) (.seq (.ops [.alc 3 [(.nil 1)]]) (.seq (.ops [.fa 4 0 (.t 1), .ld 5 1 false (.t 4), .call (some 6) 86 [(.t 5)], .fa 7 0 (.t 3), .st 1 (.t 7) (.t 6)]) (.seq (.ops [.ld 8 1 true (.t 3), .st 1 (.t 2) (.t 8)]) .ret))))
theorem trwToDb : trFn Try.prog 43 = some (acwToDb, [.ld 0 1 true (.t 2)], 9) := by kernel_rfl
def qwToDb (r : GDb) : Exit → St → Prop := retQ [.ld 0 1 true (.t 2)] fun x _ => x = (fun y => (vGDb y)) r
def acwToDataS_L0 : AC := (.loop (.seq (.seq (.ops [.mv 8 (.t 4), .mv 9 (.t 0), .len 10 (.t 9), .bin 11 .lss (.t 8) (.t 10)]) (.cond (.t 11) .skip (.exit 0))) (.seq (.block 1 (.ops [.mv 14 (.t 3), .mv 15 (.t 4), .mv 16 (.t 0), .mv 17 (.t 4), .ia 18 1 (.t 16) (.t 17), .ld 19 1 true (.t 18), .call (some 20) 160 [(.t 19)], .ia 21 1 (.t 14) (.t 15), .st 1 (.t 21) (.t 20)])) (.ops [.mv 12 (.t 4), .bin 13 .add (.t 12) (.c (.d (.i .i64 1))), .asg 4 (.t 13)]))))
def acwToDataS : AC := (.seq (.ops [.asg 2 (.c (.nil 1))]) (.seq (.ops [.mv 5 (.t 0), .len 6 (.t 5), .mks 7 123 1 24 [(.sl 1 [])] (.t 6) (.t 6), .asg 3 (.t 7)]) (.seq (.seq (.ops [.asg 4 (.c (.d (.i .i64 0)))]) (.block 0 acwToDataS_L0)) (.seq (.ops [.mv 22 (.t 3), .asg 2 (.t 22)]) .ret))))
theorem trwToDataS : trFn Try.prog 86 = some (acwToDataS, [.mv 0 (.t 2)], 23) := by kernel_rfl
def qwToDataS (r : (List GData)) : Exit → St → Prop := retQ [.mv 0 (.t 2)] fun x _ => x = (fun y => (.d (.sl 1 (y.map cGData)))) r
def qwToDataS_0 (r : (List GData)) : Exit → St → Prop := (thenK (wkK (avc Try.prog (.seq (.ops [.mv 22 (.t 3), .asg 2 (.t 22)]) .ret) (qwToDataS r))) (qwToDataS r))
def qwToDataS_1 (r : (List GData)) : Exit → St → Prop := (blockK 0 (qwToDataS_0 r))
def stwToDataS_L0 (p0 : (List GData)) (x4 : Int) (b7_0 : (List GData)) : St := ⟨[(0, (.d (.sl 1 (p0.map cGData)))), (3, (.msl 7 1 0 b7_0.length b7_0.length)), (4, (.d (.i .i64 x4)))], [(7, rowsV (b7_0.map cGData))]⟩
def acwToData : AC := (.seq (.ops [.box 1 (.t 0), .alc 2 [(.nil 1)]]) (.seq (.ops [.alc 3 [(.nil 1)]]) (.seq (.ops [.fa 4 0 (.t 1), .ld 5 1 false (.t 4), .call (some 6) 198 [(.t 5)], .fa 7 0 (.t 3), .st 1 (.t 7) (.t 6)]) (.seq (.ops [.ld 8 1 true (.t 3), .st 1 (.t 2) (.t 8)]) .ret))))
theorem trwToData : trFn Try.prog 160 = some (acwToData, [.ld 0 1 true (.t 2)], 9) := by kernel_rfl
def qwToData (r : GData) : Exit → St → Prop := retQ [.ld 0 1 true (.t 2)] fun x _ => x = (fun y => (vGData y)) r
def acwToValueS_L0 : AC := (.loop (.seq (.seq (.ops [.mv 8 (.t 4), .mv 9 (.t 0), .len 10 (.t 9), .bin 11 .lss (.t 8) (.t 10)]) (.cond (.t 11) .skip (.exit 0))) (.seq (.block 1 (.ops [.mv 14 (.t 3), .mv 15 (.t 4), .mv 16 (.t 0), .mv 17 (.t 4), .ia 18 3 (.t 16) (.t 17), .ld 19 3 true (.t 18), .call (some 20) 23 [(.t 19)], .ia 21 3 (.t 14) (.t 15), .st 3 (.t 21) (.t 20)])) (.ops [.mv 12 (.t 4), .bin 13 .add (.t 12) (.c (.d (.i .i64 1))), .asg 4 (.t 13)]))))
def acwToValueS : AC := (.seq (.ops [.asg 2 (.c (.nil 3))]) (.seq (.ops [.mv 5 (.t 0), .len 6 (.t 5), .mks 7 25 3 32 [(.i .i64 0), (.i .i64 0), (.s (bs []))] (.t 6) (.t 6), .asg 3 (.t 7)]) (.seq (.seq (.ops [.asg 4 (.c (.d (.i .i64 0)))]) (.block 0 acwToValueS_L0)) (.seq (.ops [.mv 22 (.t 3), .asg 2 (.t 22)]) .ret))))
theorem trwToValueS : trFn Try.prog 32 = some (acwToValueS, [.mv 0 (.t 2)], 23) := by kernel_rfl
def qwToValueS (r : (List GValue)) : Exit → St → Prop := retQ [.mv 0 (.t 2)] fun x _ => x = (fun y => (.d (.sl 3 (y.map cGValue)))) r
def qwToValueS_0 (r : (List GValue)) : Exit → St → Prop := (thenK (wkK (avc Try.prog (.seq (.ops [.mv 22 (.t 3), .asg 2 (.t 22)]) .ret) (qwToValueS r))) (qwToValueS r))
def qwToValueS_1 (r : (List GValue)) : Exit → St → Prop := (blockK 0 (qwToValueS_0 r))
def stwToValueS_L0 (p0 : (List GValue)) (x4 : Int) (b7_0 : (List GValue)) : St := ⟨[(0, (.d (.sl 3 (p0.map cGValue)))), (3, (.msl 7 3 0 b7_0.length b7_0.length)), (4, (.d (.i .i64 x4)))], [(7, rowsV (b7_0.map cGValue))]⟩
def acwToValue : AC := (.seq (.ops [.box 1 (.t 0), .alc 2 [(.d (.i .i64 0)), (.d (.i .i64 0)), (.d (.s (bs [])))]]) (.seq (.ops [.alc 3 [(.d (.i .i64 0)), (.d (.i .i64 0)), (.d (.s (bs [])))]]) (.seq (.ops [.fa 4 0 (.t 1), .ld 5 1 false (.t 4), .fa 6 0 (.t 3), .st 1 (.t 6) (.t 5)]) (.seq (.ops [.fa 7 1 (.t 1), .ld 8 1 false (.t 7), .fa 9 1 (.t 3), .st 1 (.t 9) (.t 8)]) (.seq (.ops [.fa 10 2 (.t 1), .ld 11 1 false (.t 10), .fa 12 2 (.t 3), .st 1 (.t 12) (.t 11)]) (.seq (.ops [.ld 13 3 true (.t 3), .st 3 (.t 2) (.t 13)]) .ret))))))
theorem trwToValue : trFn Try.prog 23 = some (acwToValue, [.ld 0 3 true (.t 2)], 14) := by kernel_rfl
def qwToValue (r : GValue) : Exit → St → Prop := retQ [.ld 0 3 true (.t 2)] fun x _ => x = (fun y => (vGValue y)) r
def acsDbOk_L1 : AC := (.loop (.seq (.seq (.ops [.mv 34 (.t 6), .fa 35 0 (.t 3), .ld 36 1 false (.t 35), .mv 37 (.t 5), .ia 38 1 (.t 36) (.t 37), .fa 39 0 (.t 38), .ld 40 1 false (.t 39), .len 41 (.t 40), .bin 42 .lss (.t 34) (.t 41)]) (.cond (.t 42) .skip (.exit 2))) (.seq (.block 3 (.seq (.dops [[], [0], [], [1, 2], [3], [4], [], [5, 6], [7], [], [9], [], [10, 11], [12], [13], [8, 14, 14], [15]] [.fa 45 0 (.t 3), .ld 46 1 false (.t 45), .mv 47 (.t 5), .ia 48 1 (.t 46) (.t 47), .fa 49 0 (.t 48), .ld 50 1 false (.t 49), .mv 51 (.t 6), .ia 52 1 (.t 50) (.t 51), .ld 53 1 false (.t 52), .fa 54 0 (.t 2), .ld 55 1 false (.t 54), .mv 56 (.t 5), .ia 57 2 (.t 55) (.t 56), .ld 58 2 true (.t 57), .call (some 59) 84 [(.t 58)], .call (some 60) 83 [(.t 53), (.t 59)], .not 61 (.t 60)]) (.cond (.t 61) (.seq (.ops [.asg 4 (.c (.d (.b false)))]) .ret) .skip))) (.ops [.mv 43 (.t 6), .bin 44 .add (.t 43) (.c (.d (.i .i64 1))), .asg 6 (.t 44)]))))
def acsDbOk_L0 : AC := (.loop (.seq (.seq (.ops [.mv 19 (.t 5), .fa 20 0 (.t 3), .ld 21 1 false (.t 20), .len 22 (.t 21), .bin 23 .lss (.t 19) (.t 22)]) (.cond (.t 23) .skip (.exit 0))) (.seq (.block 1 (.seq (.seq (.ops [.fa 26 0 (.t 3), .ld 27 1 false (.t 26), .mv 28 (.t 5), .ia 29 1 (.t 27) (.t 28), .fa 30 0 (.t 29), .ld 31 1 false (.t 30), .len 32 (.t 31), .bin 33 .gtr (.t 32) (.c (.d (.i .i64 6)))]) (.cond (.t 33) (.seq (.ops [.asg 4 (.c (.d (.b false)))]) .ret) .skip)) (.seq (.ops [.asg 6 (.c (.d (.i .i64 0)))]) (.block 2 acsDbOk_L1)))) (.ops [.mv 24 (.t 5), .bin 25 .add (.t 24) (.c (.d (.i .i64 1))), .asg 5 (.t 25)]))))
def acsDbOk : AC := (.seq (.ops [.box 2 (.t 0), .box 3 (.t 1), .asg 4 (.c (.d (.b false)))]) (.seq (.seq (.ops [.ld 7 1 true (.t 2), .call (some 8) 82 [(.t 7)], .not 9 (.t 8), .mv 10 (.t 9), .g 10 false (.fa 11 0 (.t 3)), .g 10 false (.ld 12 1 false (.t 11)), .g 10 false (.len 13 (.t 12)), .g 10 false (.fa 14 0 (.t 2)), .g 10 false (.ld 15 1 false (.t 14)), .g 10 false (.len 16 (.t 15)), .g 10 false (.bin 17 .neq (.t 13) (.t 16)), .pick 18 (.t 10) (.c (.d (.b true))) (.t 17)]) (.cond (.t 18) (.seq (.ops [.asg 4 (.c (.d (.b false)))]) .ret) .skip)) (.seq (.seq (.ops [.asg 5 (.c (.d (.i .i64 0)))]) (.block 0 acsDbOk_L0)) (.seq (.ops [.asg 4 (.c (.d (.b true)))]) .ret))))
theorem trsDbOk : trFn Try.prog 41 = some (acsDbOk, [.mv 0 (.t 4)], 62) := by kernel_rfl
def qsDbOk (r : Bool) : Exit → St → Prop := retQ [.mv 0 (.t 4)] fun x _ => x = (fun y => (.d (.b y))) r
def qsDbOk_0 (r : Bool) : Exit → St → Prop := (thenK (wkK (avc Try.prog (.seq (.ops [.asg 4 (.c (.d (.b true)))]) .ret) (qsDbOk r))) (qsDbOk r))
def qsDbOk_1 (r : Bool) : Exit → St → Prop := (blockK 0 (qsDbOk_0 r))
def qsDbOk_2 (r : Bool) : Exit → St → Prop := (thenK (avc Try.prog acsDbOk_L0 (qsDbOk_1 r)) (qsDbOk_1 r))
def qsDbOk_3 (r : Bool) : Exit → St → Prop := (thenK (wkK (avc Try.prog (.ops [.mv 24 (.t 5), .bin 25 .add (.t 24) (.c (.d (.i .i64 1))), .asg 5 (.t 25)]) (qsDbOk_2 r))) (qsDbOk_2 r))
def qsDbOk_4 (r : Bool) : Exit → St → Prop := (blockK 1 (qsDbOk_3 r))
def qsDbOk_5 (r : Bool) : Exit → St → Prop := (blockK 2 (qsDbOk_4 r))
def stsDbOk_L0 (p0 : GCatalog) (p1 : GDb) (x5 : Int) : St := ⟨[(2, (.ptr 2 0)), (3, (.ptr 3 0)), (5, (.d (.i .i64 x5)))], [(2, [(.d (.sl 2 (p0.tables.map cGTable)))]), (3, [(.d (.sl 1 (p1.tables.map cGData)))])]⟩
def stsDbOk_L1 (x5 : Int) (p0 : GCatalog) (p1 : GDb) (x6 : Int) : St := ⟨[(2, (.ptr 2 0)), (3, (.ptr 3 0)), (5, (.d (.i .i64 x5))), (6, (.d (.i .i64 x6)))], [(2, [(.d (.sl 2 (p0.tables.map cGTable)))]), (3, [(.d (.sl 1 (p1.tables.map cGData)))])]⟩
def acsRowFits_L0 : AC := (.loop (.seq (.seq (.ops [.mv 11 (.t 5), .mv 12 (.t 0), .len 13 (.t 12), .bin 14 .lss (.t 11) (.t 13)]) (.cond (.t 14) .skip (.exit 0))) (.seq (.block 1 (.seq (.dops [[], [], [0, 1], [2], [], [], [4, 5], [6], [3, 7], [8]] [.mv 17 (.t 0), .mv 18 (.t 5), .ia 19 3 (.t 17) (.t 18), .ld 20 3 true (.t 19), .mv 21 (.t 1), .mv 22 (.t 5), .ia 23 1 (.t 21) (.t 22), .ld 24 1 false (.t 23), .call (some 25) 158 [(.t 20), (.t 24)], .not 26 (.t 25)]) (.cond (.t 26) (.seq (.ops [.asg 4 (.c (.d (.b false)))]) .ret) .skip))) (.ops [.mv 15 (.t 5), .bin 16 .add (.t 15) (.c (.d (.i .i64 1))), .asg 5 (.t 16)]))))
def acsRowFits : AC := (.seq (.ops [.asg 4 (.c (.d (.b false)))]) (.seq (.seq (.ops [.mv 6 (.t 0), .len 7 (.t 6), .mv 8 (.t 1), .len 9 (.t 8), .bin 10 .neq (.t 7) (.t 9)]) (.cond (.t 10) (.seq (.ops [.asg 4 (.c (.d (.b false)))]) .ret) .skip)) (.seq (.seq (.ops [.asg 5 (.c (.d (.i .i64 0)))]) (.block 0 acsRowFits_L0)) (.seq (.ops [.asg 4 (.c (.d (.b true)))]) .ret))))
theorem trsRowFits : trFn Try.prog 83 = some (acsRowFits, [.mv 0 (.t 4)], 27) := by kernel_rfl
def qsRowFits (r : Bool) : Exit → St → Prop := retQ [.mv 0 (.t 4)] fun x _ => x = (fun y => (.d (.b y))) r
def qsRowFits_0 (r : Bool) : Exit → St → Prop := (thenK (wkK (avc Try.prog (.seq (.ops [.asg 4 (.c (.d (.b true)))]) .ret) (qsRowFits r))) (qsRowFits r))
def qsRowFits_1 (r : Bool) : Exit → St → Prop := (blockK 0 (qsRowFits_0 r))
def stsRowFits_L0 (p0 : (List GValue)) (p1 : (List Int)) (x5 : Int) : St := ⟨[(0, (.d (.sl 3 (p0.map cGValue)))), (1, (.d (.sl 1 (p1.map cI)))), (5, (.d (.i .i64 x5)))], []⟩
def acsFitsType : AC := (.seq (.ops [.box 2 (.t 0), .asg 4 (.c (.d (.b false)))]) (.seq (.ops [.ld 5 3 true (.t 2), .call (some 6) 122 [(.t 5)], .mv 7 (.t 6), .g 7 true (.fa 8 0 (.t 2)), .g 7 true (.ld 9 1 false (.t 8)), .g 7 true (.bin 10 .eql (.t 9) (.c (.d (.i .i64 0)))), .g 7 true (.mv 11 (.t 10)), .g 11 false (.fa 12 0 (.t 2)), .g 11 false (.ld 13 1 false (.t 12)), .g 11 false (.mv 14 (.t 1)), .g 11 false (.bin 15 .eql (.t 13) (.t 14)), .g 7 true (.pick 16 (.t 11) (.c (.d (.b true))) (.t 15)), .pick 17 (.t 7) (.t 16) (.c (.d (.b false))), .asg 4 (.t 17)]) .ret))
theorem trsFitsType : trFn Try.prog 158 = some (acsFitsType, [.mv 0 (.t 4)], 18) := by kernel_rfl
def qsFitsType (r : Bool) : Exit → St → Prop := retQ [.mv 0 (.t 4)] fun x _ => x = (fun y => (.d (.b y))) r
def acsValueOk : AC := (.seq (.ops [.box 1 (.t 0), .asg 2 (.c (.d (.b false)))]) (.seq (.seq (.ops [.fa 3 0 (.t 1), .ld 4 1 false (.t 3)]) (.block 0 (.seq (.ops [.bin 6 .eql (.t 4) (.c (.d (.i .i64 0))), .asg 5 (.t 6)]) (.cond (.t 5) (.seq (.ops [.fa 7 1 (.t 1), .ld 8 1 false (.t 7), .bin 9 .eql (.t 8) (.c (.d (.i .i64 0))), .mv 10 (.t 9), .g 10 true (.fa 11 2 (.t 1)), .g 10 true (.ld 12 1 false (.t 11)), .g 10 true (.bin 13 .eql (.t 12) (.c (.d (.s (bs []))))), .pick 14 (.t 10) (.t 13) (.c (.d (.b false))), .asg 2 (.t 14)]) .ret) (.seq (.ops [.bin 16 .eql (.t 4) (.c (.d (.i .i64 1))), .asg 15 (.t 16)]) (.cond (.t 15) (.seq (.ops [.fa 17 2 (.t 1), .ld 18 1 false (.t 17), .bin 19 .eql (.t 18) (.c (.d (.s (bs [])))), .asg 2 (.t 19)]) .ret) (.seq (.ops [.bin 21 .eql (.t 4) (.c (.d (.i .i64 2))), .asg 20 (.t 21)]) (.cond (.t 20) (.seq (.ops [.fa 22 1 (.t 1), .ld 23 1 false (.t 22), .bin 24 .eql (.t 23) (.c (.d (.i .i64 0))), .mv 25 (.t 24), .g 25 true (.fa 26 2 (.t 1)), .g 25 true (.ld 27 1 false (.t 26)), .g 25 true (.lns 28 (.t 27)), .g 25 true (.bin 29 .leq (.t 28) (.c (.d (.i .i64 200)))), .pick 30 (.t 25) (.t 29) (.c (.d (.b false))), .asg 2 (.t 30)]) .ret) (.seq (.ops [.bin 32 .eql (.t 4) (.c (.d (.i .i64 3))), .asg 31 (.t 32)]) (.cond (.t 31) (.seq (.ops [.fa 33 1 (.t 1), .ld 34 1 false (.t 33), .call (some 35) 121 [(.t 34), (.c (.d (.i .i64 0))), (.c (.d (.i .i64 1)))], .mv 36 (.t 35), .g 36 true (.fa 37 2 (.t 1)), .g 36 true (.ld 38 1 false (.t 37)), .g 36 true (.bin 39 .eql (.t 38) (.c (.d (.s (bs []))))), .pick 40 (.t 36) (.t 39) (.c (.d (.b false))), .asg 2 (.t 40)]) .ret) .skip)))))))))) (.seq (.ops [.asg 2 (.c (.d (.b false)))]) .ret)))
theorem trsValueOk : trFn Try.prog 122 = some (acsValueOk, [.mv 0 (.t 2)], 41) := by kernel_rfl
def qsValueOk (r : Bool) : Exit → St → Prop := retQ [.mv 0 (.t 2)] fun x _ => x = (fun y => (.d (.b y))) r
def acsL1In : AC := (.seq (.ops [.asg 6 (.c (.d (.b false)))]) (.seq (.ops [.mv 7 (.t 0), .mv 8 (.t 1), .bin 9 .geq (.t 7) (.t 8), .mv 10 (.t 9), .g 10 true (.mv 11 (.t 0)), .g 10 true (.mv 12 (.t 2)), .g 10 true (.bin 13 .leq (.t 11) (.t 12)), .pick 14 (.t 10) (.t 13) (.c (.d (.b false))), .asg 6 (.t 14)]) .ret))
theorem trsL1In : trFn Try.prog 121 = some (acsL1In, [.mv 0 (.t 6)], 15) := by kernel_rfl
def qsL1In (r : Bool) : Exit → St → Prop := retQ [.mv 0 (.t 6)] fun x _ => x = (fun y => (.d (.b y))) r
def acsCatalogOk_L1 : AC := (.loop (.seq (.seq (.ops [.mv 41 (.t 5), .fa 42 1 (.t 4), .ld 43 1 false (.t 42), .len 44 (.t 43), .bin 45 .lss (.t 41) (.t 44)]) (.cond (.t 45) .skip (.exit 2))) (.seq (.block 3 (.seq (.dops [[], [0], [], [1, 2], [3], [4], [5], [6], [7, 6], [8], [8], [10, 8], [8], [11, 12, 8], [13, 8], [14, 8], [9, 15, 8, 8], [8], [16, 17, 8], [8, 18], [19, 16], [20], [21, 20], [20], [22, 23, 20], [24, 20], [25, 20], [26, 20, 20], [27, 20], [20, 28]] [.fa 48 1 (.t 4), .ld 49 1 false (.t 48), .mv 50 (.t 5), .ia 51 2 (.t 49) (.t 50), .fa 52 0 (.t 51), .ld 53 1 false (.t 52), .call (some 54) 155 [(.t 53)], .not 55 (.t 54), .mv 56 (.t 55), .g 56 false (.ld 57 2 true (.t 4)), .g 56 false (.fa 58 1 (.t 4)), .g 56 false (.ld 59 1 false (.t 58)), .g 56 false (.mv 60 (.t 5)), .g 56 false (.ia 61 2 (.t 59) (.t 60)), .g 56 false (.fa 62 0 (.t 61)), .g 56 false (.ld 63 1 false (.t 62)), .g 56 false (.call (some 64) 157 [(.t 57), (.t 63)]), .g 56 false (.mv 65 (.t 5)), .g 56 false (.bin 66 .neq (.t 64) (.t 65)), .pick 67 (.t 56) (.c (.d (.b true))) (.t 66), .mv 68 (.t 67), .g 68 false (.fa 69 1 (.t 4)), .g 68 false (.ld 70 1 false (.t 69)), .g 68 false (.mv 71 (.t 5)), .g 68 false (.ia 72 2 (.t 70) (.t 71)), .g 68 false (.fa 73 1 (.t 72)), .g 68 false (.ld 74 1 false (.t 73)), .g 68 false (.call (some 75) 121 [(.t 74), (.c (.d (.i .i64 1))), (.c (.d (.i .i64 3)))]), .g 68 false (.not 76 (.t 75)), .pick 77 (.t 68) (.c (.d (.b true))) (.t 76)]) (.cond (.t 77) (.seq (.ops [.asg 2 (.c (.d (.b false)))]) .ret) .skip))) (.ops [.mv 46 (.t 5), .bin 47 .add (.t 46) (.c (.d (.i .i64 1))), .asg 5 (.t 47)]))))
def acsCatalogOk_L0 : AC := (.loop (.seq (.seq (.ops [.mv 10 (.t 3), .fa 11 0 (.t 1), .ld 12 1 false (.t 11), .len 13 (.t 12), .bin 14 .lss (.t 10) (.t 13)]) (.cond (.t 14) .skip (.exit 0))) (.seq (.block 1 (.seq (.ops [.fa 17 0 (.t 1), .ld 18 1 false (.t 17), .mv 19 (.t 3), .ia 20 2 (.t 18) (.t 19), .ld 21 2 true (.t 20), .alc 4 [(.d (.s (bs []))), (.nil 2)], .st 2 (.t 4) (.t 21)]) (.seq (.seq (.ops [.fa 22 0 (.t 4), .ld 23 1 false (.t 22), .call (some 24) 155 [(.t 23)], .not 25 (.t 24), .mv 26 (.t 25), .g 26 false (.ld 27 1 true (.t 1)), .g 26 false (.fa 28 0 (.t 4)), .g 26 false (.ld 29 1 false (.t 28)), .g 26 false (.call (some 30) 156 [(.t 27), (.t 29)]), .g 26 false (.mv 31 (.t 3)), .g 26 false (.bin 32 .neq (.t 30) (.t 31)), .pick 33 (.t 26) (.c (.d (.b true))) (.t 32), .mv 34 (.t 33), .g 34 false (.fa 35 1 (.t 4)), .g 34 false (.ld 36 1 false (.t 35)), .g 34 false (.len 37 (.t 36)), .g 34 false (.call (some 38) 121 [(.t 37), (.c (.d (.i .i64 1))), (.c (.d (.i .i64 4)))]), .g 34 false (.not 39 (.t 38)), .pick 40 (.t 34) (.c (.d (.b true))) (.t 39)]) (.cond (.t 40) (.seq (.ops [.asg 2 (.c (.d (.b false)))]) .ret) .skip)) (.seq (.ops [.asg 5 (.c (.d (.i .i64 0)))]) (.block 2 acsCatalogOk_L1))))) (.ops [.mv 15 (.t 3), .bin 16 .add (.t 15) (.c (.d (.i .i64 1))), .asg 3 (.t 16)]))))
def acsCatalogOk : AC := (.seq (.ops [.box 1 (.t 0), .asg 2 (.c (.d (.b false)))]) (.seq (.seq (.ops [.fa 6 0 (.t 1), .ld 7 1 false (.t 6), .len 8 (.t 7), .bin 9 .gtr (.t 8) (.c (.d (.i .i64 4)))]) (.cond (.t 9) (.seq (.ops [.asg 2 (.c (.d (.b false)))]) .ret) .skip)) (.seq (.seq (.ops [.asg 3 (.c (.d (.i .i64 0)))]) (.block 0 acsCatalogOk_L0)) (.seq (.ops [.asg 2 (.c (.d (.b true)))]) .ret))))
theorem trsCatalogOk : trFn Try.prog 82 = some (acsCatalogOk, [.mv 0 (.t 2)], 78) := by kernel_rfl
def qsCatalogOk (r : Bool) : Exit → St → Prop := retQ [.mv 0 (.t 2)] fun x _ => x = (fun y => (.d (.b y))) r
def qsCatalogOk_0 (r : Bool) : Exit → St → Prop := (thenK (wkK (avc Try.prog (.seq (.ops [.asg 2 (.c (.d (.b true)))]) .ret) (qsCatalogOk r))) (qsCatalogOk r))
def qsCatalogOk_1 (r : Bool) : Exit → St → Prop := (blockK 0 (qsCatalogOk_0 r))
def qsCatalogOk_2 (r : Bool) : Exit → St → Prop := (thenK (avc Try.prog acsCatalogOk_L0 (qsCatalogOk_1 r)) (qsCatalogOk_1 r))
def qsCatalogOk_3 (r : Bool) : Exit → St → Prop := (thenK (wkK (avc Try.prog (.ops [.mv 15 (.t 3), .bin 16 .add (.t 15) (.c (.d (.i .i64 1))), .asg 3 (.t 16)]) (qsCatalogOk_2 r))) (qsCatalogOk_2 r))
def qsCatalogOk_4 (r : Bool) : Exit → St → Prop := (blockK 1 (qsCatalogOk_3 r))
def qsCatalogOk_5 (r : Bool) : Exit → St → Prop := (blockK 2 (qsCatalogOk_4 r))
def stsCatalogOk_L0 (p0 : GCatalog) (x3 : Int) : St := ⟨[(1, (.ptr 1 0)), (3, (.d (.i .i64 x3)))], [(1, [(.d (.sl 2 (p0.tables.map cGTable)))])]⟩
def stsCatalogOk_L1 (x3 : Int) (p0 : GCatalog) (y1 : GTable) (x5 : Int) : St := ⟨[(1, (.ptr 1 0)), (3, (.d (.i .i64 x3))), (4, (.ptr 4 0)), (5, (.d (.i .i64 x5)))], [(1, [(.d (.sl 2 (p0.tables.map cGTable)))]), (4, [(.d (.s (bs y1.name))), (.d (.sl 2 (y1.cols.map cGCol)))])]⟩
def acsTableAt_L0 : AC := (.loop (.seq (.seq (.ops [.mv 6 (.t 5), .fa 7 0 (.t 2), .ld 8 1 false (.t 7), .len 9 (.t 8), .bin 10 .lss (.t 6) (.t 9)]) (.cond (.t 10) .skip (.exit 0))) (.seq (.block 1 (.seq (.ops [.fa 13 0 (.t 2), .ld 14 1 false (.t 13), .mv 15 (.t 5), .ia 16 2 (.t 14) (.t 15), .fa 17 0 (.t 16), .ld 18 1 false (.t 17), .mv 19 (.t 1), .bin 20 .eql (.t 18) (.t 19)]) (.cond (.t 20) (.seq (.ops [.mv 21 (.t 5), .asg 4 (.t 21)]) .ret) .skip))) (.ops [.mv 11 (.t 5), .bin 12 .add (.t 11) (.c (.d (.i .i64 1))), .asg 5 (.t 12)]))))
def acsTableAt : AC := (.seq (.ops [.box 2 (.t 0), .asg 4 (.c (.d (.i .i64 0)))]) (.seq (.seq (.ops [.asg 5 (.c (.d (.i .i64 0)))]) (.block 0 acsTableAt_L0)) (.seq (.ops [.asg 4 (.c (.d (.i .i64 (-1))))]) .ret)))
theorem trsTableAt : trFn Try.prog 156 = some (acsTableAt, [.mv 0 (.t 4)], 22) := by kernel_rfl
def qsTableAt (r : Int) : Exit → St → Prop := retQ [.mv 0 (.t 4)] fun x _ => x = (fun y => (.d (.i .i64 y))) r
def qsTableAt_0 (r : Int) : Exit → St → Prop := (thenK (wkK (avc Try.prog (.seq (.ops [.asg 4 (.c (.d (.i .i64 (-1))))]) .ret) (qsTableAt r))) (qsTableAt r))
def qsTableAt_1 (r : Int) : Exit → St → Prop := (blockK 0 (qsTableAt_0 r))
def stsTableAt_L0 (p1 : (List UInt8)) (p0 : GCatalog) (x5 : Int) : St := ⟨[(1, (.d (.s (bs p1)))), (2, (.ptr 2 0)), (5, (.d (.i .i64 x5)))], [(2, [(.d (.sl 2 (p0.tables.map cGTable)))])]⟩
def acsNameOk : AC := (.seq (.ops [.asg 2 (.c (.d (.b false)))]) (.seq (.ops [.mv 3 (.t 0), .lns 4 (.t 3), .call (some 5) 121 [(.t 4), (.c (.d (.i .i64 1))), (.c (.d (.i .i64 20)))], .asg 2 (.t 5)]) .ret))
theorem trsNameOk : trFn Try.prog 155 = some (acsNameOk, [.mv 0 (.t 2)], 6) := by kernel_rfl
def qsNameOk (r : Bool) : Exit → St → Prop := retQ [.mv 0 (.t 2)] fun x _ => x = (fun y => (.d (.b y))) r
def acsColAt_L0 : AC := (.loop (.seq (.seq (.ops [.mv 6 (.t 5), .fa 7 1 (.t 2), .ld 8 1 false (.t 7), .len 9 (.t 8), .bin 10 .lss (.t 6) (.t 9)]) (.cond (.t 10) .skip (.exit 0))) (.seq (.block 1 (.seq (.ops [.fa 13 1 (.t 2), .ld 14 1 false (.t 13), .mv 15 (.t 5), .ia 16 2 (.t 14) (.t 15), .fa 17 0 (.t 16), .ld 18 1 false (.t 17), .mv 19 (.t 1), .bin 20 .eql (.t 18) (.t 19)]) (.cond (.t 20) (.seq (.ops [.mv 21 (.t 5), .asg 4 (.t 21)]) .ret) .skip))) (.ops [.mv 11 (.t 5), .bin 12 .add (.t 11) (.c (.d (.i .i64 1))), .asg 5 (.t 12)]))))
def acsColAt : AC := (.seq (.ops [.box 2 (.t 0), .asg 4 (.c (.d (.i .i64 0)))]) (.seq (.seq (.ops [.asg 5 (.c (.d (.i .i64 0)))]) (.block 0 acsColAt_L0)) (.seq (.ops [.asg 4 (.c (.d (.i .i64 (-1))))]) .ret)))
theorem trsColAt : trFn Try.prog 157 = some (acsColAt, [.mv 0 (.t 4)], 22) := by kernel_rfl
def qsColAt (r : Int) : Exit → St → Prop := retQ [.mv 0 (.t 4)] fun x _ => x = (fun y => (.d (.i .i64 y))) r
def qsColAt_0 (r : Int) : Exit → St → Prop := (thenK (wkK (avc Try.prog (.seq (.ops [.asg 4 (.c (.d (.i .i64 (-1))))]) .ret) (qsColAt r))) (qsColAt r))
def qsColAt_1 (r : Int) : Exit → St → Prop := (blockK 0 (qsColAt_0 r))
def stsColAt_L0 (p1 : (List UInt8)) (p0 : GTable) (x5 : Int) : St := ⟨[(1, (.d (.s (bs p1)))), (2, (.ptr 2 0)), (5, (.d (.i .i64 x5)))], [(2, [(.d (.s (bs p0.name))), (.d (.sl 2 (p0.cols.map cGCol)))])]⟩
def acsTypesOf_L0 : AC := (.loop (.seq (.seq (.ops [.mv 6 (.t 4), .fa 7 1 (.t 1), .ld 8 1 false (.t 7), .len 9 (.t 8), .bin 10 .lss (.t 6) (.t 9)]) (.cond (.t 10) .skip (.exit 0))) (.seq (.block 1 (.ops [.mv 13 (.t 3), .fa 14 1 (.t 1), .ld 15 1 false (.t 14), .mv 16 (.t 4), .ia 17 2 (.t 15) (.t 16), .fa 18 1 (.t 17), .ld 19 1 false (.t 18), .bsl 20 3 1 [(.t 19)], .app 21 3 1 8 (.t 13) (.t 20), .asg 3 (.t 21)])) (.ops [.mv 11 (.t 4), .bin 12 .add (.t 11) (.c (.d (.i .i64 1))), .asg 4 (.t 12)]))))
def acsTypesOf : AC := (.seq (.ops [.box 1 (.t 0), .asg 2 (.c (.nil 1))]) (.seq (.ops [.bsl 5 3 1 [], .asg 3 (.t 5)]) (.seq (.seq (.ops [.asg 4 (.c (.d (.i .i64 0)))]) (.block 0 acsTypesOf_L0)) (.seq (.ops [.mv 22 (.t 3), .asg 2 (.t 22)]) .ret))))
theorem trsTypesOf : trFn Try.prog 84 = some (acsTypesOf, [.mv 0 (.t 2)], 23) := by kernel_rfl
def qsTypesOf (r : (List Int)) : Exit → St → Prop := retQ [.mv 0 (.t 2)] fun x b => x = (fun (y : (List Int)) => (.osl 2000000 3 1 (y.map cI))) r ∧ bxHas ((fun (y : (List Int)) => []) r) b
def qsTypesOf_0 (r : (List Int)) : Exit → St → Prop := (thenK (wkK (avc Try.prog (.seq (.ops [.mv 22 (.t 3), .asg 2 (.t 22)]) .ret) (qsTypesOf r))) (qsTypesOf r))
def qsTypesOf_1 (r : (List Int)) : Exit → St → Prop := (blockK 0 (qsTypesOf_0 r))
def stsTypesOf_L0 (p0 : GTable) (x3 : (List Int)) (x4 : Int) : St := ⟨[(1, (.ptr 1 0)), (3, (.osl 3 3 1 (x3.map cI))), (4, (.d (.i .i64 x4)))], [(1, [(.d (.s (bs p0.name))), (.d (.sl 2 (p0.cols.map cGCol)))])]⟩
def acwEqDb : AC := (.seq (.ops [.box 2 (.t 0), .box 3 (.t 1), .asg 4 (.c (.d (.b false)))]) (.seq (.seq (.ops [.fa 5 0 (.t 2), .ld 6 1 false (.t 5), .fa 7 0 (.t 3), .ld 8 1 false (.t 7), .call (some 9) 93 [(.t 6), (.t 8)], .not 10 (.t 9)]) (.cond (.t 10) (.seq (.ops [.asg 4 (.c (.d (.b false)))]) .ret) .skip)) (.seq (.ops [.asg 4 (.c (.d (.b true)))]) .ret)))
theorem trwEqDb : trFn Try.prog 46 = some (acwEqDb, [.mv 0 (.t 4)], 11) := by kernel_rfl
def qwEqDb (r : Bool) : Exit → St → Prop := retQ [.mv 0 (.t 4)] fun x _ => x = (fun y => (.d (.b y))) r
def acwEqDataS_L0 : AC := (.loop (.seq (.seq (.ops [.mv 11 (.t 5), .mv 12 (.t 0), .len 13 (.t 12), .bin 14 .lss (.t 11) (.t 13)]) (.cond (.t 14) .skip (.exit 0))) (.seq (.block 1 (.seq (.dops [[], [], [0, 1], [2], [], [], [4, 5], [6], [3, 7], [8]] [.mv 17 (.t 0), .mv 18 (.t 5), .ia 19 1 (.t 17) (.t 18), .ld 20 1 true (.t 19), .mv 21 (.t 1), .mv 22 (.t 5), .ia 23 1 (.t 21) (.t 22), .ld 24 1 true (.t 23), .call (some 25) 166 [(.t 20), (.t 24)], .not 26 (.t 25)]) (.cond (.t 26) (.seq (.ops [.asg 4 (.c (.d (.b false)))]) .ret) .skip))) (.ops [.mv 15 (.t 5), .bin 16 .add (.t 15) (.c (.d (.i .i64 1))), .asg 5 (.t 16)]))))
def acwEqDataS : AC := (.seq (.ops [.asg 4 (.c (.d (.b false)))]) (.seq (.seq (.ops [.mv 6 (.t 0), .len 7 (.t 6), .mv 8 (.t 1), .len 9 (.t 8), .bin 10 .neq (.t 7) (.t 9)]) (.cond (.t 10) (.seq (.ops [.asg 4 (.c (.d (.b false)))]) .ret) .skip)) (.seq (.seq (.ops [.asg 5 (.c (.d (.i .i64 0)))]) (.block 0 acwEqDataS_L0)) (.seq (.ops [.asg 4 (.c (.d (.b true)))]) .ret))))
theorem trwEqDataS : trFn Try.prog 93 = some (acwEqDataS, [.mv 0 (.t 4)], 27) := by kernel_rfl
def qwEqDataS (r : Bool) : Exit → St → Prop := retQ [.mv 0 (.t 4)] fun x _ => x = (fun y => (.d (.b y))) r
def qwEqDataS_0 (r : Bool) : Exit → St → Prop := (thenK (wkK (avc Try.prog (.seq (.ops [.asg 4 (.c (.d (.b true)))]) .ret) (qwEqDataS r))) (qwEqDataS r))
def qwEqDataS_1 (r : Bool) : Exit → St → Prop := (blockK 0 (qwEqDataS_0 r))
def stwEqDataS_L0 (p0 : (List GData)) (p1 : (List GData)) (x5 : Int) : St := ⟨[(0, (.d (.sl 1 (p0.map cGData)))), (1, (.d (.sl 1 (p1.map cGData)))), (5, (.d (.i .i64 x5)))], []⟩
def acwEqData : AC := (.seq (.ops [.box 2 (.t 0), .box 3 (.t 1), .asg 4 (.c (.d (.b false)))]) (.seq (.seq (.ops [.fa 5 0 (.t 2), .ld 6 1 false (.t 5), .fa 7 0 (.t 3), .ld 8 1 false (.t 7), .call (some 9) 204 [(.t 6), (.t 8)], .not 10 (.t 9)]) (.cond (.t 10) (.seq (.ops [.asg 4 (.c (.d (.b false)))]) .ret) .skip)) (.seq (.ops [.asg 4 (.c (.d (.b true)))]) .ret)))
theorem trwEqData : trFn Try.prog 166 = some (acwEqData, [.mv 0 (.t 4)], 11) := by kernel_rfl
def qwEqData (r : Bool) : Exit → St → Prop := retQ [.mv 0 (.t 4)] fun x _ => x = (fun y => (.d (.b y))) r
def acwEqValueSS_L0 : AC := (.loop (.seq (.seq (.ops [.mv 11 (.t 5), .mv 12 (.t 0), .len 13 (.t 12), .bin 14 .lss (.t 11) (.t 13)]) (.cond (.t 14) .skip (.exit 0))) (.seq (.block 1 (.seq (.dops [[], [], [0, 1], [2], [], [], [4, 5], [6], [3, 7], [8]] [.mv 17 (.t 0), .mv 18 (.t 5), .ia 19 1 (.t 17) (.t 18), .ld 20 1 false (.t 19), .mv 21 (.t 1), .mv 22 (.t 5), .ia 23 1 (.t 21) (.t 22), .ld 24 1 false (.t 23), .call (some 25) 34 [(.t 20), (.t 24)], .not 26 (.t 25)]) (.cond (.t 26) (.seq (.ops [.asg 4 (.c (.d (.b false)))]) .ret) .skip))) (.ops [.mv 15 (.t 5), .bin 16 .add (.t 15) (.c (.d (.i .i64 1))), .asg 5 (.t 16)]))))
def acwEqValueSS : AC := (.seq (.ops [.asg 4 (.c (.d (.b false)))]) (.seq (.seq (.ops [.mv 6 (.t 0), .len 7 (.t 6), .mv 8 (.t 1), .len 9 (.t 8), .bin 10 .neq (.t 7) (.t 9)]) (.cond (.t 10) (.seq (.ops [.asg 4 (.c (.d (.b false)))]) .ret) .skip)) (.seq (.seq (.ops [.asg 5 (.c (.d (.i .i64 0)))]) (.block 0 acwEqValueSS_L0)) (.seq (.ops [.asg 4 (.c (.d (.b true)))]) .ret))))
theorem trwEqValueSS : trFn Try.prog 204 = some (acwEqValueSS, [.mv 0 (.t 4)], 27) := by kernel_rfl
def qwEqValueSS (r : Bool) : Exit → St → Prop := retQ [.mv 0 (.t 4)] fun x _ => x = (fun y => (.d (.b y))) r
def qwEqValueSS_0 (r : Bool) : Exit → St → Prop := (thenK (wkK (avc Try.prog (.seq (.ops [.asg 4 (.c (.d (.b true)))]) .ret) (qwEqValueSS r))) (qwEqValueSS r))
def qwEqValueSS_1 (r : Bool) : Exit → St → Prop := (blockK 0 (qwEqValueSS_0 r))
def stwEqValueSS_L0 (p0 : (List (List GValue))) (p1 : (List (List GValue))) (x5 : Int) : St := ⟨[(0, (.d (.sl 1 (p0.map (cSl 3 cGValue))))), (1, (.d (.sl 1 (p1.map (cSl 3 cGValue))))), (5, (.d (.i .i64 x5)))], []⟩
def acwEqValueS_L0 : AC := (.loop (.seq (.seq (.ops [.mv 11 (.t 5), .mv 12 (.t 0), .len 13 (.t 12), .bin 14 .lss (.t 11) (.t 13)]) (.cond (.t 14) .skip (.exit 0))) (.seq (.block 1 (.seq (.dops [[], [], [0, 1], [2], [], [], [4, 5], [6], [3, 7], [8]] [.mv 17 (.t 0), .mv 18 (.t 5), .ia 19 3 (.t 17) (.t 18), .ld 20 3 true (.t 19), .mv 21 (.t 1), .mv 22 (.t 5), .ia 23 3 (.t 21) (.t 22), .ld 24 3 true (.t 23), .call (some 25) 25 [(.t 20), (.t 24)], .not 26 (.t 25)]) (.cond (.t 26) (.seq (.ops [.asg 4 (.c (.d (.b false)))]) .ret) .skip))) (.ops [.mv 15 (.t 5), .bin 16 .add (.t 15) (.c (.d (.i .i64 1))), .asg 5 (.t 16)]))))
def acwEqValueS : AC := (.seq (.ops [.asg 4 (.c (.d (.b false)))]) (.seq (.seq (.ops [.mv 6 (.t 0), .len 7 (.t 6), .mv 8 (.t 1), .len 9 (.t 8), .bin 10 .neq (.t 7) (.t 9)]) (.cond (.t 10) (.seq (.ops [.asg 4 (.c (.d (.b false)))]) .ret) .skip)) (.seq (.seq (.ops [.asg 5 (.c (.d (.i .i64 0)))]) (.block 0 acwEqValueS_L0)) (.seq (.ops [.asg 4 (.c (.d (.b true)))]) .ret))))
theorem trwEqValueS : trFn Try.prog 34 = some (acwEqValueS, [.mv 0 (.t 4)], 27) := by kernel_rfl
def qwEqValueS (r : Bool) : Exit → St → Prop := retQ [.mv 0 (.t 4)] fun x _ => x = (fun y => (.d (.b y))) r
def qwEqValueS_0 (r : Bool) : Exit → St → Prop := (thenK (wkK (avc Try.prog (.seq (.ops [.asg 4 (.c (.d (.b true)))]) .ret) (qwEqValueS r))) (qwEqValueS r))
def qwEqValueS_1 (r : Bool) : Exit → St → Prop := (blockK 0 (qwEqValueS_0 r))
def stwEqValueS_L0 (p0 : (List GValue)) (p1 : (List GValue)) (x5 : Int) : St := ⟨[(0, (.d (.sl 3 (p0.map cGValue)))), (1, (.d (.sl 3 (p1.map cGValue)))), (5, (.d (.i .i64 x5)))], []⟩
def acwEqValue : AC := (.seq (.ops [.box 2 (.t 0), .box 3 (.t 1), .asg 4 (.c (.d (.b false)))]) (.seq (.seq (.ops [.fa 5 0 (.t 2), .ld 6 1 false (.t 5), .fa 7 0 (.t 3), .ld 8 1 false (.t 7), .bin 9 .neq (.t 6) (.t 8)]) (.cond (.t 9) (.seq (.ops [.asg 4 (.c (.d (.b false)))]) .ret) .skip)) (.seq (.seq (.ops [.fa 10 1 (.t 2), .ld 11 1 false (.t 10), .fa 12 1 (.t 3), .ld 13 1 false (.t 12), .bin 14 .neq (.t 11) (.t 13)]) (.cond (.t 14) (.seq (.ops [.asg 4 (.c (.d (.b false)))]) .ret) .skip)) (.seq (.seq (.ops [.fa 15 2 (.t 2), .ld 16 1 false (.t 15), .fa 17 2 (.t 3), .ld 18 1 false (.t 17), .bin 19 .neq (.t 16) (.t 18)]) (.cond (.t 19) (.seq (.ops [.asg 4 (.c (.d (.b false)))]) .ret) .skip)) (.seq (.ops [.asg 4 (.c (.d (.b true)))]) .ret)))))
theorem trwEqValue : trFn Try.prog 25 = some (acwEqValue, [.mv 0 (.t 4)], 20) := by kernel_rfl
def qwEqValue (r : Bool) : Exit → St → Prop := retQ [.mv 0 (.t 4)] fun x _ => x = (fun y => (.d (.b y))) r
def acwSzDb : AC := (.seq (.ops [.box 2 (.t 0), .asg 4 (.c (.d (.i .i64 0)))]) (.seq (.ops [.fa 5 0 (.t 2), .ld 6 1 false (.t 5), .mv 7 (.t 1), .call (some 8) 81 [(.t 6), (.t 7)], .asg 1 (.t 8)]) (.seq (.seq (.ops [.mv 9 (.t 1), .bin 10 .lss (.t 9) (.c (.d (.i .i64 0)))]) (.cond (.t 10) (.seq (.ops [.asg 4 (.c (.d (.i .i64 (-1))))]) .ret) .skip)) (.seq (.ops [.mv 11 (.t 1), .asg 4 (.t 11)]) .ret))))
theorem trwSzDb : trFn Try.prog 40 = some (acwSzDb, [.mv 0 (.t 4)], 12) := by kernel_rfl
def qwSzDb (r : Int) : Exit → St → Prop := retQ [.mv 0 (.t 4)] fun x _ => x = (fun y => (.d (.i .i64 y))) r
def acwSzDataS_L0 : AC := (.loop (.seq (.seq (.ops [.mv 12 (.t 5), .mv 13 (.t 0), .len 14 (.t 13), .bin 15 .lss (.t 12) (.t 14)]) (.cond (.t 15) .skip (.exit 0))) (.seq (.block 1 (.seq (.ops [.mv 18 (.t 0), .mv 19 (.t 5), .ia 20 1 (.t 18) (.t 19), .ld 21 1 true (.t 20), .mv 22 (.t 1), .call (some 23) 154 [(.t 21), (.t 22)], .asg 1 (.t 23)]) (.seq (.ops [.mv 24 (.t 1), .bin 25 .lss (.t 24) (.c (.d (.i .i64 0)))]) (.cond (.t 25) (.seq (.ops [.asg 4 (.c (.d (.i .i64 (-1))))]) .ret) .skip)))) (.ops [.mv 16 (.t 5), .bin 17 .add (.t 16) (.c (.d (.i .i64 1))), .asg 5 (.t 17)]))))
def acwSzDataS : AC := (.seq (.ops [.asg 4 (.c (.d (.i .i64 0)))]) (.seq (.ops [.mv 6 (.t 1), .mv 7 (.t 0), .len 8 (.t 7), .bin 9 .sub (.t 6) (.t 8), .asg 1 (.t 9)]) (.seq (.seq (.ops [.mv 10 (.t 1), .bin 11 .lss (.t 10) (.c (.d (.i .i64 0)))]) (.cond (.t 11) (.seq (.ops [.asg 4 (.c (.d (.i .i64 (-1))))]) .ret) .skip)) (.seq (.seq (.ops [.asg 5 (.c (.d (.i .i64 0)))]) (.block 0 acwSzDataS_L0)) (.seq (.ops [.mv 26 (.t 1), .asg 4 (.t 26)]) .ret)))))
theorem trwSzDataS : trFn Try.prog 81 = some (acwSzDataS, [.mv 0 (.t 4)], 27) := by kernel_rfl
def qwSzDataS (r : Int) : Exit → St → Prop := retQ [.mv 0 (.t 4)] fun x _ => x = (fun y => (.d (.i .i64 y))) r
def qwSzDataS_0 (r : Int) : Exit → St → Prop := (thenK (wkK (avc Try.prog (.seq (.ops [.mv 26 (.t 1), .asg 4 (.t 26)]) .ret) (qwSzDataS r))) (qwSzDataS r))
def qwSzDataS_1 (r : Int) : Exit → St → Prop := (blockK 0 (qwSzDataS_0 r))
def stwSzDataS_L0 (p0 : (List GData)) (x1 : Int) (x5 : Int) : St := ⟨[(0, (.d (.sl 1 (p0.map cGData)))), (1, (.d (.i .i64 x1))), (5, (.d (.i .i64 x5)))], []⟩
def acwSzData : AC := (.seq (.ops [.box 2 (.t 0), .asg 4 (.c (.d (.i .i64 0)))]) (.seq (.ops [.fa 5 0 (.t 2), .ld 6 1 false (.t 5), .mv 7 (.t 1), .call (some 8) 196 [(.t 6), (.t 7)], .asg 1 (.t 8)]) (.seq (.seq (.ops [.mv 9 (.t 1), .bin 10 .lss (.t 9) (.c (.d (.i .i64 0)))]) (.cond (.t 10) (.seq (.ops [.asg 4 (.c (.d (.i .i64 (-1))))]) .ret) .skip)) (.seq (.ops [.mv 11 (.t 1), .asg 4 (.t 11)]) .ret))))
theorem trwSzData : trFn Try.prog 154 = some (acwSzData, [.mv 0 (.t 4)], 12) := by kernel_rfl
def qwSzData (r : Int) : Exit → St → Prop := retQ [.mv 0 (.t 4)] fun x _ => x = (fun y => (.d (.i .i64 y))) r
def acwSzValueSS_L0 : AC := (.loop (.seq (.seq (.ops [.mv 12 (.t 5), .mv 13 (.t 0), .len 14 (.t 13), .bin 15 .lss (.t 12) (.t 14)]) (.cond (.t 15) .skip (.exit 0))) (.seq (.block 1 (.seq (.ops [.mv 18 (.t 0), .mv 19 (.t 5), .ia 20 1 (.t 18) (.t 19), .ld 21 1 false (.t 20), .mv 22 (.t 1), .call (some 23) 30 [(.t 21), (.t 22)], .asg 1 (.t 23)]) (.seq (.ops [.mv 24 (.t 1), .bin 25 .lss (.t 24) (.c (.d (.i .i64 0)))]) (.cond (.t 25) (.seq (.ops [.asg 4 (.c (.d (.i .i64 (-1))))]) .ret) .skip)))) (.ops [.mv 16 (.t 5), .bin 17 .add (.t 16) (.c (.d (.i .i64 1))), .asg 5 (.t 17)]))))
def acwSzValueSS : AC := (.seq (.ops [.asg 4 (.c (.d (.i .i64 0)))]) (.seq (.ops [.mv 6 (.t 1), .mv 7 (.t 0), .len 8 (.t 7), .bin 9 .sub (.t 6) (.t 8), .asg 1 (.t 9)]) (.seq (.seq (.ops [.mv 10 (.t 1), .bin 11 .lss (.t 10) (.c (.d (.i .i64 0)))]) (.cond (.t 11) (.seq (.ops [.asg 4 (.c (.d (.i .i64 (-1))))]) .ret) .skip)) (.seq (.seq (.ops [.asg 5 (.c (.d (.i .i64 0)))]) (.block 0 acwSzValueSS_L0)) (.seq (.ops [.mv 26 (.t 1), .asg 4 (.t 26)]) .ret)))))
theorem trwSzValueSS : trFn Try.prog 196 = some (acwSzValueSS, [.mv 0 (.t 4)], 27) := by kernel_rfl
def qwSzValueSS (r : Int) : Exit → St → Prop := retQ [.mv 0 (.t 4)] fun x _ => x = (fun y => (.d (.i .i64 y))) r
def qwSzValueSS_0 (r : Int) : Exit → St → Prop := (thenK (wkK (avc Try.prog (.seq (.ops [.mv 26 (.t 1), .asg 4 (.t 26)]) .ret) (qwSzValueSS r))) (qwSzValueSS r))
def qwSzValueSS_1 (r : Int) : Exit → St → Prop := (blockK 0 (qwSzValueSS_0 r))
def stwSzValueSS_L0 (p0 : (List (List GValue))) (x1 : Int) (x5 : Int) : St := ⟨[(0, (.d (.sl 1 (p0.map (cSl 3 cGValue))))), (1, (.d (.i .i64 x1))), (5, (.d (.i .i64 x5)))], []⟩
def acwSzValueS_L0 : AC := (.loop (.seq (.seq (.ops [.mv 12 (.t 5), .mv 13 (.t 0), .len 14 (.t 13), .bin 15 .lss (.t 12) (.t 14)]) (.cond (.t 15) .skip (.exit 0))) (.seq (.block 1 (.seq (.ops [.mv 18 (.t 0), .mv 19 (.t 5), .ia 20 3 (.t 18) (.t 19), .ld 21 3 true (.t 20), .mv 22 (.t 1), .call (some 23) 21 [(.t 21), (.t 22)], .asg 1 (.t 23)]) (.seq (.ops [.mv 24 (.t 1), .bin 25 .lss (.t 24) (.c (.d (.i .i64 0)))]) (.cond (.t 25) (.seq (.ops [.asg 4 (.c (.d (.i .i64 (-1))))]) .ret) .skip)))) (.ops [.mv 16 (.t 5), .bin 17 .add (.t 16) (.c (.d (.i .i64 1))), .asg 5 (.t 17)]))))
def acwSzValueS : AC := (.seq (.ops [.asg 4 (.c (.d (.i .i64 0)))]) (.seq (.ops [.mv 6 (.t 1), .mv 7 (.t 0), .len 8 (.t 7), .bin 9 .sub (.t 6) (.t 8), .asg 1 (.t 9)]) (.seq (.seq (.ops [.mv 10 (.t 1), .bin 11 .lss (.t 10) (.c (.d (.i .i64 0)))]) (.cond (.t 11) (.seq (.ops [.asg 4 (.c (.d (.i .i64 (-1))))]) .ret) .skip)) (.seq (.seq (.ops [.asg 5 (.c (.d (.i .i64 0)))]) (.block 0 acwSzValueS_L0)) (.seq (.ops [.mv 26 (.t 1), .asg 4 (.t 26)]) .ret)))))
theorem trwSzValueS : trFn Try.prog 30 = some (acwSzValueS, [.mv 0 (.t 4)], 27) := by kernel_rfl
def qwSzValueS (r : Int) : Exit → St → Prop := retQ [.mv 0 (.t 4)] fun x _ => x = (fun y => (.d (.i .i64 y))) r
def qwSzValueS_0 (r : Int) : Exit → St → Prop := (thenK (wkK (avc Try.prog (.seq (.ops [.mv 26 (.t 1), .asg 4 (.t 26)]) .ret) (qwSzValueS r))) (qwSzValueS r))
def qwSzValueS_1 (r : Int) : Exit → St → Prop := (blockK 0 (qwSzValueS_0 r))
def stwSzValueS_L0 (p0 : (List GValue)) (x1 : Int) (x5 : Int) : St := ⟨[(0, (.d (.sl 3 (p0.map cGValue)))), (1, (.d (.i .i64 x1))), (5, (.d (.i .i64 x5)))], []⟩
def acwSzValue : AC := (.seq (.ops [.box 2 (.t 0), .asg 4 (.c (.d (.i .i64 0)))]) (.seq (.ops [.mv 5 (.t 1), .fa 6 2 (.t 2), .ld 7 1 false (.t 6), .lns 8 (.t 7), .bin 9 .sub (.t 5) (.t 8), .asg 1 (.t 9)]) (.seq (.seq (.ops [.mv 10 (.t 1), .bin 11 .lss (.t 10) (.c (.d (.i .i64 0)))]) (.cond (.t 11) (.seq (.ops [.asg 4 (.c (.d (.i .i64 (-1))))]) .ret) .skip)) (.seq (.ops [.mv 12 (.t 1), .asg 4 (.t 12)]) .ret))))
theorem trwSzValue : trFn Try.prog 21 = some (acwSzValue, [.mv 0 (.t 4)], 13) := by kernel_rfl
def qwSzValue (r : Int) : Exit → St → Prop := retQ [.mv 0 (.t 4)] fun x _ => x = (fun y => (.d (.i .i64 y))) r
def acwEqCatalog : AC := (.seq (.ops [.box 2 (.t 0), .box 3 (.t 1), .asg 4 (.c (.d (.b false)))]) (.seq (.seq (.ops [.fa 5 0 (.t 2), .ld 6 1 false (.t 5), .fa 7 0 (.t 3), .ld 8 1 false (.t 7), .call (some 9) 92 [(.t 6), (.t 8)], .not 10 (.t 9)]) (.cond (.t 10) (.seq (.ops [.asg 4 (.c (.d (.b false)))]) .ret) .skip)) (.seq (.ops [.asg 4 (.c (.d (.b true)))]) .ret)))
theorem trwEqCatalog : trFn Try.prog 45 = some (acwEqCatalog, [.mv 0 (.t 4)], 11) := by kernel_rfl
def qwEqCatalog (r : Bool) : Exit → St → Prop := retQ [.mv 0 (.t 4)] fun x _ => x = (fun y => (.d (.b y))) r
def acwEqTableS_L0 : AC := (.loop (.seq (.seq (.ops [.mv 11 (.t 5), .mv 12 (.t 0), .len 13 (.t 12), .bin 14 .lss (.t 11) (.t 13)]) (.cond (.t 14) .skip (.exit 0))) (.seq (.block 1 (.seq (.dops [[], [], [0, 1], [2], [], [], [4, 5], [6], [3, 7], [8]] [.mv 17 (.t 0), .mv 18 (.t 5), .ia 19 2 (.t 17) (.t 18), .ld 20 2 true (.t 19), .mv 21 (.t 1), .mv 22 (.t 5), .ia 23 2 (.t 21) (.t 22), .ld 24 2 true (.t 23), .call (some 25) 165 [(.t 20), (.t 24)], .not 26 (.t 25)]) (.cond (.t 26) (.seq (.ops [.asg 4 (.c (.d (.b false)))]) .ret) .skip))) (.ops [.mv 15 (.t 5), .bin 16 .add (.t 15) (.c (.d (.i .i64 1))), .asg 5 (.t 16)]))))
def acwEqTableS : AC := (.seq (.ops [.asg 4 (.c (.d (.b false)))]) (.seq (.seq (.ops [.mv 6 (.t 0), .len 7 (.t 6), .mv 8 (.t 1), .len 9 (.t 8), .bin 10 .neq (.t 7) (.t 9)]) (.cond (.t 10) (.seq (.ops [.asg 4 (.c (.d (.b false)))]) .ret) .skip)) (.seq (.seq (.ops [.asg 5 (.c (.d (.i .i64 0)))]) (.block 0 acwEqTableS_L0)) (.seq (.ops [.asg 4 (.c (.d (.b true)))]) .ret))))
theorem trwEqTableS : trFn Try.prog 92 = some (acwEqTableS, [.mv 0 (.t 4)], 27) := by kernel_rfl
def qwEqTableS (r : Bool) : Exit → St → Prop := retQ [.mv 0 (.t 4)] fun x _ => x = (fun y => (.d (.b y))) r
def qwEqTableS_0 (r : Bool) : Exit → St → Prop := (thenK (wkK (avc Try.prog (.seq (.ops [.asg 4 (.c (.d (.b true)))]) .ret) (qwEqTableS r))) (qwEqTableS r))
def qwEqTableS_1 (r : Bool) : Exit → St → Prop := (blockK 0 (qwEqTableS_0 r))
def stwEqTableS_L0 (p0 : (List GTable)) (p1 : (List GTable)) (x5 : Int) : St := ⟨[(0, (.d (.sl 2 (p0.map cGTable)))), (1, (.d (.sl 2 (p1.map cGTable)))), (5, (.d (.i .i64 x5)))], []⟩
def acwEqTable : AC := (.seq (.ops [.box 2 (.t 0), .box 3 (.t 1), .asg 4 (.c (.d (.b false)))]) (.seq (.seq (.ops [.fa 5 0 (.t 2), .ld 6 1 false (.t 5), .fa 7 0 (.t 3), .ld 8 1 false (.t 7), .bin 9 .neq (.t 6) (.t 8)]) (.cond (.t 9) (.seq (.ops [.asg 4 (.c (.d (.b false)))]) .ret) .skip)) (.seq (.seq (.ops [.fa 10 1 (.t 2), .ld 11 1 false (.t 10), .fa 12 1 (.t 3), .ld 13 1 false (.t 12), .call (some 14) 203 [(.t 11), (.t 13)], .not 15 (.t 14)]) (.cond (.t 15) (.seq (.ops [.asg 4 (.c (.d (.b false)))]) .ret) .skip)) (.seq (.ops [.asg 4 (.c (.d (.b true)))]) .ret))))
theorem trwEqTable : trFn Try.prog 165 = some (acwEqTable, [.mv 0 (.t 4)], 16) := by kernel_rfl
def qwEqTable (r : Bool) : Exit → St → Prop := retQ [.mv 0 (.t 4)] fun x _ => x = (fun y => (.d (.b y))) r
def acwEqColS_L0 : AC := (.loop (.seq (.seq (.ops [.mv 11 (.t 5), .mv 12 (.t 0), .len 13 (.t 12), .bin 14 .lss (.t 11) (.t 13)]) (.cond (.t 14) .skip (.exit 0))) (.seq (.block 1 (.seq (.dops [[], [], [0, 1], [2], [], [], [4, 5], [6], [3, 7], [8]] [.mv 17 (.t 0), .mv 18 (.t 5), .ia 19 2 (.t 17) (.t 18), .ld 20 2 true (.t 19), .mv 21 (.t 1), .mv 22 (.t 5), .ia 23 2 (.t 21) (.t 22), .ld 24 2 true (.t 23), .call (some 25) 219 [(.t 20), (.t 24)], .not 26 (.t 25)]) (.cond (.t 26) (.seq (.ops [.asg 4 (.c (.d (.b false)))]) .ret) .skip))) (.ops [.mv 15 (.t 5), .bin 16 .add (.t 15) (.c (.d (.i .i64 1))), .asg 5 (.t 16)]))))
def acwEqColS : AC := (.seq (.ops [.asg 4 (.c (.d (.b false)))]) (.seq (.seq (.ops [.mv 6 (.t 0), .len 7 (.t 6), .mv 8 (.t 1), .len 9 (.t 8), .bin 10 .neq (.t 7) (.t 9)]) (.cond (.t 10) (.seq (.ops [.asg 4 (.c (.d (.b false)))]) .ret) .skip)) (.seq (.seq (.ops [.asg 5 (.c (.d (.i .i64 0)))]) (.block 0 acwEqColS_L0)) (.seq (.ops [.asg 4 (.c (.d (.b true)))]) .ret))))
theorem trwEqColS : trFn Try.prog 203 = some (acwEqColS, [.mv 0 (.t 4)], 27) := by kernel_rfl
def qwEqColS (r : Bool) : Exit → St → Prop := retQ [.mv 0 (.t 4)] fun x _ => x = (fun y => (.d (.b y))) r
def qwEqColS_0 (r : Bool) : Exit → St → Prop := (thenK (wkK (avc Try.prog (.seq (.ops [.asg 4 (.c (.d (.b true)))]) .ret) (qwEqColS r))) (qwEqColS r))
def qwEqColS_1 (r : Bool) : Exit → St → Prop := (blockK 0 (qwEqColS_0 r))
def stwEqColS_L0 (p0 : (List GCol)) (p1 : (List GCol)) (x5 : Int) : St := ⟨[(0, (.d (.sl 2 (p0.map cGCol)))), (1, (.d (.sl 2 (p1.map cGCol)))), (5, (.d (.i .i64 x5)))], []⟩
def acwEqCol : AC := (.seq (.ops [.box 2 (.t 0), .box 3 (.t 1), .asg 4 (.c (.d (.b false)))]) (.seq (.seq (.ops [.fa 5 0 (.t 2), .ld 6 1 false (.t 5), .fa 7 0 (.t 3), .ld 8 1 false (.t 7), .bin 9 .neq (.t 6) (.t 8)]) (.cond (.t 9) (.seq (.ops [.asg 4 (.c (.d (.b false)))]) .ret) .skip)) (.seq (.seq (.ops [.fa 10 1 (.t 2), .ld 11 1 false (.t 10), .fa 12 1 (.t 3), .ld 13 1 false (.t 12), .bin 14 .neq (.t 11) (.t 13)]) (.cond (.t 14) (.seq (.ops [.asg 4 (.c (.d (.b false)))]) .ret) .skip)) (.seq (.ops [.asg 4 (.c (.d (.b true)))]) .ret))))
theorem trwEqCol : trFn Try.prog 219 = some (acwEqCol, [.mv 0 (.t 4)], 15) := by kernel_rfl
def qwEqCol (r : Bool) : Exit → St → Prop := retQ [.mv 0 (.t 4)] fun x _ => x = (fun y => (.d (.b y))) r
def aciDbOk_L0 : AC := (.loop (.seq (.ops [.bin 24 .lss (.t 23) (.t 22)]) (.seq (.cond (.t 24) .skip (.exit 0)) (.seq (.block 1 (.seq (.ops [.mv 25 (.t 23), .ia 26 1 (.t 21) (.t 23), .ld 27 1 true (.t 26), .alc 6 [(.nil 1)], .asg 5 (.t 25), .st 1 (.t 6) (.t 27)]) (.seq (.ops [.fa 28 0 (.t 2), .ld 29 1 false (.t 28), .mv 30 (.t 5), .ia 31 2 (.t 29) (.t 30), .ld 32 2 true (.t 31), .call (some 33) 88 [(.t 32)], .alc 7 [(.nil 1)], .st 1 (.t 7) (.t 33)]) (.seq (.ops [.fa 34 0 (.t 6), .ld 35 1 false (.t 34), .len 36 (.t 35), .bin 37 .gtr (.t 36) (.c (.d (.i .i64 6))), .mv 38 (.t 37), .g 38 false (.fa 39 0 (.t 6)), .g 38 false (.ld 40 1 false (.t 39)), .g 38 false (.mkf 41 90 [(.t 7)]), .g 38 false (.call (some 42) 89 [(.t 40), (.t 41)]), .pick 43 (.t 38) (.c (.d (.b true))) (.t 42)]) (.cond (.t 43) (.seq (.ops [.asg 4 (.c (.d (.b false)))]) .ret) .skip))))) (.ops [.bin 44 .add (.t 23) (.c (.d (.i .i64 1))), .mv 23 (.t 44)])))))
def aciDbOk : AC := (.seq (.ops [.box 2 (.t 0), .box 3 (.t 1), .asg 4 (.c (.d (.b false)))]) (.seq (.seq (.ops [.ld 8 1 true (.t 2), .call (some 9) 87 [(.t 8)], .not 10 (.t 9), .mv 11 (.t 10), .g 11 false (.fa 12 0 (.t 3)), .g 11 false (.ld 13 1 false (.t 12)), .g 11 false (.len 14 (.t 13)), .g 11 false (.fa 15 0 (.t 2)), .g 11 false (.ld 16 1 false (.t 15)), .g 11 false (.len 17 (.t 16)), .g 11 false (.bin 18 .neq (.t 14) (.t 17)), .pick 19 (.t 11) (.c (.d (.b true))) (.t 18)]) (.cond (.t 19) (.seq (.ops [.asg 4 (.c (.d (.b false)))]) .ret) .skip)) (.seq (.seq (.ops [.fa 20 0 (.t 3), .ld 21 1 false (.t 20), .len 22 (.t 21), .mv 23 (.c (.d (.i .i64 0)))]) (.block 0 aciDbOk_L0)) (.seq (.ops [.asg 4 (.c (.d (.b true)))]) .ret))))
theorem triDbOk : trFn Try.prog 44 = some (aciDbOk, [.mv 0 (.t 4)], 45) := by kernel_rfl
def qiDbOk (r : Bool) : Exit → St → Prop := retQ [.mv 0 (.t 4)] fun x _ => x = (fun y => (.d (.b y))) r
def qiDbOk_0 (r : Bool) : Exit → St → Prop := (thenK (wkK (avc Try.prog (.seq (.ops [.asg 4 (.c (.d (.b true)))]) .ret) (qiDbOk r))) (qiDbOk r))
def qiDbOk_1 (r : Bool) : Exit → St → Prop := (blockK 0 (qiDbOk_0 r))
def stiDbOk_L0 (p1 : GDb) (p0 : GCatalog) (x23 : Int) : St := ⟨[(2, (.ptr 2 0)), (21, (.d (.sl 1 (p1.tables.map cGData)))), (22, (.d (.i .i64 (p1.tables.length : Int)))), (23, (.d (.i .i64 x23)))], [(2, [(.d (.sl 2 (p0.tables.map cGTable)))])]⟩
def aciTypesOf_L0 : AC := (.loop (.seq (.ops [.bin 11 .lss (.t 10) (.t 9)]) (.seq (.cond (.t 11) .skip (.exit 0)) (.seq (.block 1 (.seq (.ops [.ia 12 2 (.t 8) (.t 10), .ld 13 2 true (.t 12), .alc 5 [(.d (.s (bs []))), (.d (.i .i64 0))], .st 2 (.t 5) (.t 13)]) (.ops [.mv 14 (.t 3), .fa 15 1 (.t 5), .ld 16 1 false (.t 15), .bsl 17 3 1 [(.t 16)], .app 18 3 1 8 (.t 14) (.t 17), .asg 3 (.t 18)]))) (.ops [.bin 19 .add (.t 10) (.c (.d (.i .i64 1))), .mv 10 (.t 19)])))))
def aciTypesOf : AC := (.seq (.ops [.box 1 (.t 0), .asg 2 (.c (.nil 1))]) (.seq (.ops [.bsl 6 3 1 [], .asg 3 (.t 6)]) (.seq (.seq (.ops [.fa 7 1 (.t 1), .ld 8 1 false (.t 7), .len 9 (.t 8), .mv 10 (.c (.d (.i .i64 0)))]) (.block 0 aciTypesOf_L0)) (.seq (.ops [.mv 20 (.t 3), .asg 2 (.t 20)]) .ret))))
theorem triTypesOf : trFn Try.prog 88 = some (aciTypesOf, [.mv 0 (.t 2)], 21) := by kernel_rfl
def qiTypesOf (r : (List Int)) : Exit → St → Prop := retQ [.mv 0 (.t 2)] fun x b => x = (fun (y : (List Int)) => (.osl 2000000 3 1 (y.map cI))) r ∧ bxHas ((fun (y : (List Int)) => []) r) b
def qiTypesOf_0 (r : (List Int)) : Exit → St → Prop := (thenK (wkK (avc Try.prog (.seq (.ops [.mv 20 (.t 3), .asg 2 (.t 20)]) .ret) (qiTypesOf r))) (qiTypesOf r))
def qiTypesOf_1 (r : (List Int)) : Exit → St → Prop := (blockK 0 (qiTypesOf_0 r))
def stiTypesOf_L0 (p0 : GTable) (x3 : (List Int)) (x10 : Int) : St := ⟨[(3, (.osl 3 3 1 (x3.map cI))), (8, (.d (.sl 2 (p0.cols.map cGCol)))), (9, (.d (.i .i64 (p0.cols.length : Int)))), (10, (.d (.i .i64 x10)))], []⟩
def acgSlices_ContainsFunc_impl_Value_impl_Value_x0 : AC := (.seq (.ops [.asg 4 (.c (.d (.b false)))]) (.seq (.ops [.mv 5 (.t 0), .mv 6 (.t 1), .call (some 7) 163 [(.t 5), (.t 6)], .bin 8 .geq (.t 7) (.c (.d (.i .i64 0))), .asg 4 (.t 8)]) .ret))
theorem trgSlices_ContainsFunc_impl_Value_impl_Value_x0 : trFn Try.prog 89 = some (acgSlices_ContainsFunc_impl_Value_impl_Value_x0, [.mv 0 (.t 4)], 9) := by kernel_rfl
def qgSlices_ContainsFunc_impl_Value_impl_Value_x0 (c0_0 : (List Int)) (r : Bool) : Exit → St → Prop := retQ [.mv 0 (.t 4)] fun x b => x = (fun (y : Bool) => (.d (.b y))) r ∧ bxHas ((fun (y : Bool) => [(1000000, [(.d (.sl 1 (c0_0.map cI)))])]) r) b
def acgSlices_IndexFunc_impl_Value_impl_Value_x0_L0 : AC := (.loop (.seq (.ops [.bin 9 .lss (.t 8) (.t 7)]) (.seq (.cond (.t 9) .skip (.exit 0)) (.seq (.block 1 (.seq (.ops [.mv 10 (.t 8), .asg 5 (.t 10)]) (.seq (.ops [.mv 11 (.t 1), .mv 12 (.t 0), .mv 13 (.t 5), .ia 14 1 (.t 12) (.t 13), .ld 15 1 false (.t 14), .callv (some 16) (.t 11) [(.t 15)]]) (.cond (.t 16) (.seq (.ops [.mv 17 (.t 5), .asg 4 (.t 17)]) .ret) .skip)))) (.ops [.bin 18 .add (.t 8) (.c (.d (.i .i64 1))), .mv 8 (.t 18)])))))
def acgSlices_IndexFunc_impl_Value_impl_Value_x0 : AC := (.seq (.ops [.asg 4 (.c (.d (.i .i64 0)))]) (.seq (.seq (.ops [.mv 6 (.t 0), .len 7 (.t 6), .mv 8 (.c (.d (.i .i64 0)))]) (.block 0 acgSlices_IndexFunc_impl_Value_impl_Value_x0_L0)) (.seq (.ops [.asg 4 (.c (.d (.i .i64 (-1))))]) .ret)))
theorem trgSlices_IndexFunc_impl_Value_impl_Value_x0 : trFn Try.prog 163 = some (acgSlices_IndexFunc_impl_Value_impl_Value_x0, [.mv 0 (.t 4)], 19) := by kernel_rfl
def qgSlices_IndexFunc_impl_Value_impl_Value_x0 (c0_0 : (List Int)) (r : Int) : Exit → St → Prop := retQ [.mv 0 (.t 4)] fun x b => x = (fun (y : Int) => (.d (.i .i64 y))) r ∧ bxHas ((fun (y : Int) => [(1000000, [(.d (.sl 1 (c0_0.map cI)))])]) r) b
def qgSlices_IndexFunc_impl_Value_impl_Value_x0_0 (c0_0 : (List Int)) (r : Int) : Exit → St → Prop := (thenK (wkK (avc Try.prog (.seq (.ops [.asg 4 (.c (.d (.i .i64 (-1))))]) .ret) (qgSlices_IndexFunc_impl_Value_impl_Value_x0 c0_0 r))) (qgSlices_IndexFunc_impl_Value_impl_Value_x0 c0_0 r))
def qgSlices_IndexFunc_impl_Value_impl_Value_x0_1 (c0_0 : (List Int)) (r : Int) : Exit → St → Prop := (blockK 0 (qgSlices_IndexFunc_impl_Value_impl_Value_x0_0 c0_0 r))
def stgSlices_IndexFunc_impl_Value_impl_Value_x0_L0 (p0 : (List (List GValue))) (c0_0 : (List Int)) (x8 : Int) : St := ⟨[(0, (.d (.sl 1 (p0.map (cSl 3 cGValue))))), (1, (.fn 90 [(.ptr 1000000 0)])), (7, (.d (.i .i64 (p0.length : Int)))), (8, (.d (.i .i64 x8)))], [(1000000, [(.d (.sl 1 (c0_0.map cI)))])]⟩
def aciDbOk_1_x0 : AC := (.seq (.ops [.asg 3 (.c (.d (.b false)))]) (.seq (.ops [.mv 4 (.t 0), .ld 5 1 false (.t 1), .call (some 6) 91 [(.t 4), (.t 5)], .not 7 (.t 6), .asg 3 (.t 7)]) .ret))
theorem triDbOk_1_x0 : trFn Try.prog 90 = some (aciDbOk_1_x0, [.mv 0 (.t 3)], 8) := by kernel_rfl
def qiDbOk_1_x0 (c0_0 : (List Int)) (r : Bool) : Exit → St → Prop := retQ [.mv 0 (.t 3)] fun x b => x = (fun (y : Bool) => (.d (.b y))) r ∧ bxHas ((fun (y : Bool) => [(1000000, [(.d (.sl 1 (c0_0.map cI)))])]) r) b
def aciRowFits_L0 : AC := (.loop (.seq (.ops [.bin 15 .lss (.t 14) (.t 13)]) (.seq (.cond (.t 15) .skip (.exit 0)) (.seq (.block 1 (.seq (.ops [.mv 16 (.t 14), .ia 17 3 (.t 12) (.t 14), .ld 18 3 true (.t 17), .alc 6 [(.d (.i .i64 0)), (.d (.i .i64 0)), (.d (.s (bs [])))], .asg 5 (.t 16), .st 3 (.t 6) (.t 18)]) (.seq (.dops [[], [], [], [1, 2], [3], [0, 4], [5]] [.ld 19 3 true (.t 6), .mv 20 (.t 1), .mv 21 (.t 5), .ia 22 1 (.t 20) (.t 21), .ld 23 1 false (.t 22), .call (some 24) 164 [(.t 19), (.t 23)], .not 25 (.t 24)]) (.cond (.t 25) (.seq (.ops [.asg 4 (.c (.d (.b false)))]) .ret) .skip)))) (.ops [.bin 26 .add (.t 14) (.c (.d (.i .i64 1))), .mv 14 (.t 26)])))))
def aciRowFits : AC := (.seq (.ops [.asg 4 (.c (.d (.b false)))]) (.seq (.seq (.ops [.mv 7 (.t 0), .len 8 (.t 7), .mv 9 (.t 1), .len 10 (.t 9), .bin 11 .neq (.t 8) (.t 10)]) (.cond (.t 11) (.seq (.ops [.asg 4 (.c (.d (.b false)))]) .ret) .skip)) (.seq (.seq (.ops [.mv 12 (.t 0), .len 13 (.t 12), .mv 14 (.c (.d (.i .i64 0)))]) (.block 0 aciRowFits_L0)) (.seq (.ops [.asg 4 (.c (.d (.b true)))]) .ret))))
theorem triRowFits : trFn Try.prog 91 = some (aciRowFits, [.mv 0 (.t 4)], 27) := by kernel_rfl
def qiRowFits (r : Bool) : Exit → St → Prop := retQ [.mv 0 (.t 4)] fun x _ => x = (fun y => (.d (.b y))) r
def qiRowFits_0 (r : Bool) : Exit → St → Prop := (thenK (wkK (avc Try.prog (.seq (.ops [.asg 4 (.c (.d (.b true)))]) .ret) (qiRowFits r))) (qiRowFits r))
def qiRowFits_1 (r : Bool) : Exit → St → Prop := (blockK 0 (qiRowFits_0 r))
def stiRowFits_L0 (p1 : (List Int)) (p0 : (List GValue)) (x14 : Int) : St := ⟨[(1, (.d (.sl 1 (p1.map cI)))), (12, (.d (.sl 3 (p0.map cGValue)))), (13, (.d (.i .i64 (p0.length : Int)))), (14, (.d (.i .i64 x14)))], []⟩
def aciFitsType : AC := (.seq (.ops [.box 2 (.t 0), .asg 4 (.c (.d (.b false)))]) (.seq (.ops [.ld 5 3 true (.t 2), .call (some 6) 133 [(.t 5)], .mv 7 (.t 6), .g 7 true (.fa 8 0 (.t 2)), .g 7 true (.ld 9 1 false (.t 8)), .g 7 true (.bin 10 .eql (.t 9) (.c (.d (.i .i64 0)))), .g 7 true (.mv 11 (.t 10)), .g 11 false (.fa 12 0 (.t 2)), .g 11 false (.ld 13 1 false (.t 12)), .g 11 false (.mv 14 (.t 1)), .g 11 false (.bin 15 .eql (.t 13) (.t 14)), .g 7 true (.pick 16 (.t 11) (.c (.d (.b true))) (.t 15)), .pick 17 (.t 7) (.t 16) (.c (.d (.b false))), .asg 4 (.t 17)]) .ret))
theorem triFitsType : trFn Try.prog 164 = some (aciFitsType, [.mv 0 (.t 4)], 18) := by kernel_rfl
def qiFitsType (r : Bool) : Exit → St → Prop := retQ [.mv 0 (.t 4)] fun x _ => x = (fun y => (.d (.b y))) r
def aciValueOk : AC := (.seq (.ops [.box 1 (.t 0), .asg 2 (.c (.d (.b false)))]) (.seq (.seq (.ops [.fa 3 0 (.t 1), .ld 4 1 false (.t 3)]) (.block 0 (.seq (.ops [.bin 6 .eql (.t 4) (.c (.d (.i .i64 0))), .asg 5 (.t 6)]) (.cond (.t 5) (.seq (.ops [.fa 7 1 (.t 1), .ld 8 1 false (.t 7), .bin 9 .eql (.t 8) (.c (.d (.i .i64 0))), .mv 10 (.t 9), .g 10 true (.fa 11 2 (.t 1)), .g 10 true (.ld 12 1 false (.t 11)), .g 10 true (.bin 13 .eql (.t 12) (.c (.d (.s (bs []))))), .pick 14 (.t 10) (.t 13) (.c (.d (.b false))), .asg 2 (.t 14)]) .ret) (.seq (.ops [.bin 16 .eql (.t 4) (.c (.d (.i .i64 1))), .asg 15 (.t 16)]) (.cond (.t 15) (.seq (.ops [.fa 17 2 (.t 1), .ld 18 1 false (.t 17), .bin 19 .eql (.t 18) (.c (.d (.s (bs [])))), .asg 2 (.t 19)]) .ret) (.seq (.ops [.bin 21 .eql (.t 4) (.c (.d (.i .i64 2))), .asg 20 (.t 21)]) (.cond (.t 20) (.seq (.ops [.fa 22 1 (.t 1), .ld 23 1 false (.t 22), .bin 24 .eql (.t 23) (.c (.d (.i .i64 0))), .mv 25 (.t 24), .g 25 true (.fa 26 2 (.t 1)), .g 25 true (.ld 27 1 false (.t 26)), .g 25 true (.lns 28 (.t 27)), .g 25 true (.bin 29 .leq (.t 28) (.c (.d (.i .i64 200)))), .pick 30 (.t 25) (.t 29) (.c (.d (.b false))), .asg 2 (.t 30)]) .ret) (.seq (.ops [.bin 32 .eql (.t 4) (.c (.d (.i .i64 3))), .asg 31 (.t 32)]) (.cond (.t 31) (.seq (.ops [.fa 33 1 (.t 1), .ld 34 1 false (.t 33), .bin 35 .eql (.t 34) (.c (.d (.i .i64 0))), .mv 36 (.t 35), .g 36 false (.fa 37 1 (.t 1)), .g 36 false (.ld 38 1 false (.t 37)), .g 36 false (.bin 39 .eql (.t 38) (.c (.d (.i .i64 1)))), .pick 40 (.t 36) (.c (.d (.b true))) (.t 39), .mv 41 (.t 40), .g 41 true (.fa 42 2 (.t 1)), .g 41 true (.ld 43 1 false (.t 42)), .g 41 true (.bin 44 .eql (.t 43) (.c (.d (.s (bs []))))), .pick 45 (.t 41) (.t 44) (.c (.d (.b false))), .asg 2 (.t 45)]) .ret) .skip)))))))))) (.seq (.ops [.asg 2 (.c (.d (.b false)))]) .ret)))
theorem triValueOk : trFn Try.prog 133 = some (aciValueOk, [.mv 0 (.t 2)], 46) := by kernel_rfl
def qiValueOk (r : Bool) : Exit → St → Prop := retQ [.mv 0 (.t 2)] fun x _ => x = (fun y => (.d (.b y))) r
def aciCatalogOk_L0 : AC := (.loop (.seq (.ops [.bin 9 .lss (.t 8) (.t 7)]) (.seq (.cond (.t 9) .skip (.exit 0)) (.seq (.block 1 (.seq (.ops [.mv 10 (.t 8), .ia 11 2 (.t 6) (.t 8), .ld 12 2 true (.t 11), .alc 4 [(.d (.s (bs []))), (.nil 2)], .asg 3 (.t 10), .st 2 (.t 4) (.t 12)]) (.seq (.ops [.ld 13 2 true (.t 4), .call (some 14) 161 [(.t 13)], .not 15 (.t 14), .mv 16 (.t 15), .g 16 false (.ld 17 1 true (.t 1)), .g 16 false (.fa 18 0 (.t 4)), .g 16 false (.ld 19 1 false (.t 18)), .g 16 false (.call (some 20) 162 [(.t 17), (.t 19)]), .g 16 false (.mv 21 (.t 3)), .g 16 false (.bin 22 .neq (.t 20) (.t 21)), .pick 23 (.t 16) (.c (.d (.b true))) (.t 22)]) (.cond (.t 23) (.seq (.ops [.asg 2 (.c (.d (.b false)))]) .ret) .skip)))) (.ops [.bin 24 .add (.t 8) (.c (.d (.i .i64 1))), .mv 8 (.t 24)])))))
def aciCatalogOk : AC := (.seq (.ops [.box 1 (.t 0), .asg 2 (.c (.d (.b false)))]) (.seq (.seq (.ops [.fa 5 0 (.t 1), .ld 6 1 false (.t 5), .len 7 (.t 6), .mv 8 (.c (.d (.i .i64 0)))]) (.block 0 aciCatalogOk_L0)) (.seq (.ops [.fa 25 0 (.t 1), .ld 26 1 false (.t 25), .len 27 (.t 26), .bin 28 .leq (.t 27) (.c (.d (.i .i64 4))), .asg 2 (.t 28)]) .ret)))
theorem triCatalogOk : trFn Try.prog 87 = some (aciCatalogOk, [.mv 0 (.t 2)], 29) := by kernel_rfl
def qiCatalogOk (r : Bool) : Exit → St → Prop := retQ [.mv 0 (.t 2)] fun x _ => x = (fun y => (.d (.b y))) r
def qiCatalogOk_0 (r : Bool) : Exit → St → Prop := (thenK (wkK (avc Try.prog (.seq (.ops [.fa 25 0 (.t 1), .ld 26 1 false (.t 25), .len 27 (.t 26), .bin 28 .leq (.t 27) (.c (.d (.i .i64 4))), .asg 2 (.t 28)]) .ret) (qiCatalogOk r))) (qiCatalogOk r))
def qiCatalogOk_1 (r : Bool) : Exit → St → Prop := (blockK 0 (qiCatalogOk_0 r))
def stiCatalogOk_L0 (p0 : GCatalog) (x8 : Int) : St := ⟨[(1, (.ptr 1 0)), (6, (.d (.sl 2 (p0.tables.map cGTable)))), (7, (.d (.i .i64 (p0.tables.length : Int)))), (8, (.d (.i .i64 x8)))], [(1, [(.d (.sl 2 (p0.tables.map cGTable)))])]⟩
def aciTableAt : AC := (.seq (.ops [.box 2 (.t 0), .box 3 (.t 1), .asg 4 (.c (.d (.i .i64 0)))]) (.seq (.ops [.fa 5 0 (.t 2), .ld 6 1 false (.t 5), .mkf 7 202 [(.t 3)], .call (some 8) 201 [(.t 6), (.t 7)], .asg 4 (.t 8)]) .ret))
theorem triTableAt : trFn Try.prog 162 = some (aciTableAt, [.mv 0 (.t 4)], 9) := by kernel_rfl
def qiTableAt (r : Int) : Exit → St → Prop := retQ [.mv 0 (.t 4)] fun x _ => x = (fun y => (.d (.i .i64 y))) r
def acgSlices_IndexFunc_impl_Table_impl_Table_x0_L0 : AC := (.loop (.seq (.ops [.bin 9 .lss (.t 8) (.t 7)]) (.seq (.cond (.t 9) .skip (.exit 0)) (.seq (.block 1 (.seq (.ops [.mv 10 (.t 8), .asg 5 (.t 10)]) (.seq (.ops [.mv 11 (.t 1), .mv 12 (.t 0), .mv 13 (.t 5), .ia 14 2 (.t 12) (.t 13), .ld 15 2 true (.t 14), .callv (some 16) (.t 11) [(.t 15)]]) (.cond (.t 16) (.seq (.ops [.mv 17 (.t 5), .asg 4 (.t 17)]) .ret) .skip)))) (.ops [.bin 18 .add (.t 8) (.c (.d (.i .i64 1))), .mv 8 (.t 18)])))))
def acgSlices_IndexFunc_impl_Table_impl_Table_x0 : AC := (.seq (.ops [.asg 4 (.c (.d (.i .i64 0)))]) (.seq (.seq (.ops [.mv 6 (.t 0), .len 7 (.t 6), .mv 8 (.c (.d (.i .i64 0)))]) (.block 0 acgSlices_IndexFunc_impl_Table_impl_Table_x0_L0)) (.seq (.ops [.asg 4 (.c (.d (.i .i64 (-1))))]) .ret)))
theorem trgSlices_IndexFunc_impl_Table_impl_Table_x0 : trFn Try.prog 201 = some (acgSlices_IndexFunc_impl_Table_impl_Table_x0, [.mv 0 (.t 4)], 19) := by kernel_rfl
def qgSlices_IndexFunc_impl_Table_impl_Table_x0 (c0_0 : (List UInt8)) (r : Int) : Exit → St → Prop := retQ [.mv 0 (.t 4)] fun x b => x = (fun (y : Int) => (.d (.i .i64 y))) r ∧ bxHas ((fun (y : Int) => [(1000000, [(.d (.s (bs c0_0)))])]) r) b
def qgSlices_IndexFunc_impl_Table_impl_Table_x0_0 (c0_0 : (List UInt8)) (r : Int) : Exit → St → Prop := (thenK (wkK (avc Try.prog (.seq (.ops [.asg 4 (.c (.d (.i .i64 (-1))))]) .ret) (qgSlices_IndexFunc_impl_Table_impl_Table_x0 c0_0 r))) (qgSlices_IndexFunc_impl_Table_impl_Table_x0 c0_0 r))
def qgSlices_IndexFunc_impl_Table_impl_Table_x0_1 (c0_0 : (List UInt8)) (r : Int) : Exit → St → Prop := (blockK 0 (qgSlices_IndexFunc_impl_Table_impl_Table_x0_0 c0_0 r))
def stgSlices_IndexFunc_impl_Table_impl_Table_x0_L0 (p0 : (List GTable)) (c0_0 : (List UInt8)) (x8 : Int) : St := ⟨[(0, (.d (.sl 2 (p0.map cGTable)))), (1, (.fn 202 [(.ptr 1000000 0)])), (7, (.d (.i .i64 (p0.length : Int)))), (8, (.d (.i .i64 x8)))], [(1000000, [(.d (.s (bs c0_0)))])]⟩
def aciTableAt_1_x0 : AC := (.seq (.ops [.box 2 (.t 0), .asg 3 (.c (.d (.b false)))]) (.seq (.ops [.fa 4 0 (.t 2), .ld 5 1 false (.t 4), .ld 6 1 false (.t 1), .bin 7 .eql (.t 5) (.t 6), .asg 3 (.t 7)]) .ret))
theorem triTableAt_1_x0 : trFn Try.prog 202 = some (aciTableAt_1_x0, [.mv 0 (.t 3)], 8) := by kernel_rfl
def qiTableAt_1_x0 (c0_0 : (List UInt8)) (r : Bool) : Exit → St → Prop := retQ [.mv 0 (.t 3)] fun x b => x = (fun (y : Bool) => (.d (.b y))) r ∧ bxHas ((fun (y : Bool) => [(1000000, [(.d (.s (bs c0_0)))])]) r) b
def aciIsTable_L0 : AC := (.loop (.seq (.ops [.bin 9 .lss (.t 8) (.t 7)]) (.seq (.cond (.t 9) .skip (.exit 0)) (.seq (.block 1 (.seq (.ops [.mv 10 (.t 8), .ia 11 2 (.t 6) (.t 8), .ld 12 2 true (.t 11), .alc 4 [(.d (.s (bs []))), (.d (.i .i64 0))], .asg 3 (.t 10), .st 2 (.t 4) (.t 12)]) (.seq (.ops [.fa 13 0 (.t 4), .ld 14 1 false (.t 13), .call (some 15) 199 [(.t 14)], .not 16 (.t 15), .mv 17 (.t 16), .g 17 false (.fa 18 1 (.t 4)), .g 17 false (.ld 19 1 false (.t 18)), .g 17 false (.bin 20 .lss (.t 19) (.c (.d (.i .i64 1)))), .pick 21 (.t 17) (.c (.d (.b true))) (.t 20), .mv 22 (.t 21), .g 22 false (.fa 23 1 (.t 4)), .g 22 false (.ld 24 1 false (.t 23)), .g 22 false (.bin 25 .gtr (.t 24) (.c (.d (.i .i64 3)))), .pick 26 (.t 22) (.c (.d (.b true))) (.t 25), .mv 27 (.t 26), .g 27 false (.ld 28 2 true (.t 1)), .g 27 false (.fa 29 0 (.t 4)), .g 27 false (.ld 30 1 false (.t 29)), .g 27 false (.call (some 31) 200 [(.t 28), (.t 30)]), .g 27 false (.mv 32 (.t 3)), .g 27 false (.bin 33 .neq (.t 31) (.t 32)), .pick 34 (.t 27) (.c (.d (.b true))) (.t 33)]) (.cond (.t 34) (.seq (.ops [.asg 2 (.c (.d (.b false)))]) .ret) .skip)))) (.ops [.bin 35 .add (.t 8) (.c (.d (.i .i64 1))), .mv 8 (.t 35)])))))
def aciIsTable : AC := (.seq (.ops [.box 1 (.t 0), .asg 2 (.c (.d (.b false)))]) (.seq (.seq (.ops [.fa 5 1 (.t 1), .ld 6 1 false (.t 5), .len 7 (.t 6), .mv 8 (.c (.d (.i .i64 0)))]) (.block 0 aciIsTable_L0)) (.seq (.ops [.fa 36 0 (.t 1), .ld 37 1 false (.t 36), .call (some 38) 199 [(.t 37)], .mv 39 (.t 38), .g 39 true (.fa 40 1 (.t 1)), .g 39 true (.ld 41 1 false (.t 40)), .g 39 true (.len 42 (.t 41)), .g 39 true (.bin 43 .geq (.t 42) (.c (.d (.i .i64 1)))), .pick 44 (.t 39) (.t 43) (.c (.d (.b false))), .mv 45 (.t 44), .g 45 true (.fa 46 1 (.t 1)), .g 45 true (.ld 47 1 false (.t 46)), .g 45 true (.len 48 (.t 47)), .g 45 true (.bin 49 .leq (.t 48) (.c (.d (.i .i64 4)))), .pick 50 (.t 45) (.t 49) (.c (.d (.b false))), .asg 2 (.t 50)]) .ret)))
theorem triIsTable : trFn Try.prog 161 = some (aciIsTable, [.mv 0 (.t 2)], 51) := by kernel_rfl
def qiIsTable (r : Bool) : Exit → St → Prop := retQ [.mv 0 (.t 2)] fun x _ => x = (fun y => (.d (.b y))) r
def qiIsTable_0 (r : Bool) : Exit → St → Prop := (thenK (wkK (avc Try.prog (.seq (.ops [.fa 36 0 (.t 1), .ld 37 1 false (.t 36), .call (some 38) 199 [(.t 37)], .mv 39 (.t 38), .g 39 true (.fa 40 1 (.t 1)), .g 39 true (.ld 41 1 false (.t 40)), .g 39 true (.len 42 (.t 41)), .g 39 true (.bin 43 .geq (.t 42) (.c (.d (.i .i64 1)))), .pick 44 (.t 39) (.t 43) (.c (.d (.b false))), .mv 45 (.t 44), .g 45 true (.fa 46 1 (.t 1)), .g 45 true (.ld 47 1 false (.t 46)), .g 45 true (.len 48 (.t 47)), .g 45 true (.bin 49 .leq (.t 48) (.c (.d (.i .i64 4)))), .pick 50 (.t 45) (.t 49) (.c (.d (.b false))), .asg 2 (.t 50)]) .ret) (qiIsTable r))) (qiIsTable r))
def qiIsTable_1 (r : Bool) : Exit → St → Prop := (blockK 0 (qiIsTable_0 r))
def stiIsTable_L0 (p0 : GTable) (x8 : Int) : St := ⟨[(1, (.ptr 1 0)), (6, (.d (.sl 2 (p0.cols.map cGCol)))), (7, (.d (.i .i64 (p0.cols.length : Int)))), (8, (.d (.i .i64 x8)))], [(1, [(.d (.s (bs p0.name))), (.d (.sl 2 (p0.cols.map cGCol)))])]⟩
def aciNameOk : AC := (.seq (.ops [.asg 2 (.c (.d (.b false)))]) (.seq (.ops [.mv 3 (.t 0), .lns 4 (.t 3), .bin 5 .geq (.t 4) (.c (.d (.i .i64 1))), .mv 6 (.t 5), .g 6 true (.mv 7 (.t 0)), .g 6 true (.lns 8 (.t 7)), .g 6 true (.bin 9 .leq (.t 8) (.c (.d (.i .i64 20)))), .pick 10 (.t 6) (.t 9) (.c (.d (.b false))), .asg 2 (.t 10)]) .ret))
theorem triNameOk : trFn Try.prog 199 = some (aciNameOk, [.mv 0 (.t 2)], 11) := by kernel_rfl
def qiNameOk (r : Bool) : Exit → St → Prop := retQ [.mv 0 (.t 2)] fun x _ => x = (fun y => (.d (.b y))) r
def aciColAt : AC := (.seq (.ops [.box 2 (.t 0), .box 3 (.t 1), .asg 4 (.c (.d (.i .i64 0)))]) (.seq (.ops [.fa 5 1 (.t 2), .ld 6 1 false (.t 5), .mkf 7 218 [(.t 3)], .call (some 8) 217 [(.t 6), (.t 7)], .asg 4 (.t 8)]) .ret))
theorem triColAt : trFn Try.prog 200 = some (aciColAt, [.mv 0 (.t 4)], 9) := by kernel_rfl
def qiColAt (r : Int) : Exit → St → Prop := retQ [.mv 0 (.t 4)] fun x _ => x = (fun y => (.d (.i .i64 y))) r
def acgSlices_IndexFunc_impl_Col_impl_Col_x0_L0 : AC := (.loop (.seq (.ops [.bin 9 .lss (.t 8) (.t 7)]) (.seq (.cond (.t 9) .skip (.exit 0)) (.seq (.block 1 (.seq (.ops [.mv 10 (.t 8), .asg 5 (.t 10)]) (.seq (.ops [.mv 11 (.t 1), .mv 12 (.t 0), .mv 13 (.t 5), .ia 14 2 (.t 12) (.t 13), .ld 15 2 true (.t 14), .callv (some 16) (.t 11) [(.t 15)]]) (.cond (.t 16) (.seq (.ops [.mv 17 (.t 5), .asg 4 (.t 17)]) .ret) .skip)))) (.ops [.bin 18 .add (.t 8) (.c (.d (.i .i64 1))), .mv 8 (.t 18)])))))
def acgSlices_IndexFunc_impl_Col_impl_Col_x0 : AC := (.seq (.ops [.asg 4 (.c (.d (.i .i64 0)))]) (.seq (.seq (.ops [.mv 6 (.t 0), .len 7 (.t 6), .mv 8 (.c (.d (.i .i64 0)))]) (.block 0 acgSlices_IndexFunc_impl_Col_impl_Col_x0_L0)) (.seq (.ops [.asg 4 (.c (.d (.i .i64 (-1))))]) .ret)))
theorem trgSlices_IndexFunc_impl_Col_impl_Col_x0 : trFn Try.prog 217 = some (acgSlices_IndexFunc_impl_Col_impl_Col_x0, [.mv 0 (.t 4)], 19) := by kernel_rfl
def qgSlices_IndexFunc_impl_Col_impl_Col_x0 (c0_0 : (List UInt8)) (r : Int) : Exit → St → Prop := retQ [.mv 0 (.t 4)] fun x b => x = (fun (y : Int) => (.d (.i .i64 y))) r ∧ bxHas ((fun (y : Int) => [(1000000, [(.d (.s (bs c0_0)))])]) r) b
def qgSlices_IndexFunc_impl_Col_impl_Col_x0_0 (c0_0 : (List UInt8)) (r : Int) : Exit → St → Prop := (thenK (wkK (avc Try.prog (.seq (.ops [.asg 4 (.c (.d (.i .i64 (-1))))]) .ret) (qgSlices_IndexFunc_impl_Col_impl_Col_x0 c0_0 r))) (qgSlices_IndexFunc_impl_Col_impl_Col_x0 c0_0 r))
def qgSlices_IndexFunc_impl_Col_impl_Col_x0_1 (c0_0 : (List UInt8)) (r : Int) : Exit → St → Prop := (blockK 0 (qgSlices_IndexFunc_impl_Col_impl_Col_x0_0 c0_0 r))
def stgSlices_IndexFunc_impl_Col_impl_Col_x0_L0 (p0 : (List GCol)) (c0_0 : (List UInt8)) (x8 : Int) : St := ⟨[(0, (.d (.sl 2 (p0.map cGCol)))), (1, (.fn 218 [(.ptr 1000000 0)])), (7, (.d (.i .i64 (p0.length : Int)))), (8, (.d (.i .i64 x8)))], [(1000000, [(.d (.s (bs c0_0)))])]⟩
def aciColAt_1_x0 : AC := (.seq (.ops [.box 2 (.t 0), .asg 3 (.c (.d (.b false)))]) (.seq (.ops [.fa 4 0 (.t 2), .ld 5 1 false (.t 4), .ld 6 1 false (.t 1), .bin 7 .eql (.t 5) (.t 6), .asg 3 (.t 7)]) .ret))
theorem triColAt_1_x0 : trFn Try.prog 218 = some (aciColAt_1_x0, [.mv 0 (.t 3)], 8) := by kernel_rfl
def qiColAt_1_x0 (c0_0 : (List UInt8)) (r : Bool) : Exit → St → Prop := retQ [.mv 0 (.t 3)] fun x b => x = (fun (y : Bool) => (.d (.b y))) r ∧ bxHas ((fun (y : Bool) => [(1000000, [(.d (.s (bs c0_0)))])]) r) b
def acwToCatalog : AC := (.seq (.ops [.box 1 (.t 0), .alc 2 [(.nil 2)]]) (.seq (.ops [.alc 3 [(.nil 2)]]) (.seq (.ops [.fa 4 0 (.t 1), .ld 5 1 false (.t 4), .call (some 6) 85 [(.t 5)], .fa 7 0 (.t 3), .st 1 (.t 7) (.t 6)]) (.seq (.ops [.ld 8 1 true (.t 3), .st 1 (.t 2) (.t 8)]) .ret))))
theorem trwToCatalog : trFn Try.prog 42 = some (acwToCatalog, [.ld 0 1 true (.t 2)], 9) := by kernel_rfl
def qwToCatalog (r : GCatalog) : Exit → St → Prop := retQ [.ld 0 1 true (.t 2)] fun x _ => x = (fun y => (vGCatalog y)) r
def acwToTableS_L0 : AC := (.loop (.seq (.seq (.ops [.mv 8 (.t 4), .mv 9 (.t 0), .len 10 (.t 9), .bin 11 .lss (.t 8) (.t 10)]) (.cond (.t 11) .skip (.exit 0))) (.seq (.block 1 (.ops [.mv 14 (.t 3), .mv 15 (.t 4), .mv 16 (.t 0), .mv 17 (.t 4), .ia 18 2 (.t 16) (.t 17), .ld 19 2 true (.t 18), .call (some 20) 159 [(.t 19)], .ia 21 2 (.t 14) (.t 15), .st 2 (.t 21) (.t 20)])) (.ops [.mv 12 (.t 4), .bin 13 .add (.t 12) (.c (.d (.i .i64 1))), .asg 4 (.t 13)]))))
def acwToTableS : AC := (.seq (.ops [.asg 2 (.c (.nil 2))]) (.seq (.ops [.mv 5 (.t 0), .len 6 (.t 5), .mks 7 129 2 40 [(.s (bs [])), (.sl 2 [])] (.t 6) (.t 6), .asg 3 (.t 7)]) (.seq (.seq (.ops [.asg 4 (.c (.d (.i .i64 0)))]) (.block 0 acwToTableS_L0)) (.seq (.ops [.mv 22 (.t 3), .asg 2 (.t 22)]) .ret))))
theorem trwToTableS : trFn Try.prog 85 = some (acwToTableS, [.mv 0 (.t 2)], 23) := by kernel_rfl
def qwToTableS (r : (List GTable)) : Exit → St → Prop := retQ [.mv 0 (.t 2)] fun x _ => x = (fun y => (.d (.sl 2 (y.map cGTable)))) r
def qwToTableS_0 (r : (List GTable)) : Exit → St → Prop := (thenK (wkK (avc Try.prog (.seq (.ops [.mv 22 (.t 3), .asg 2 (.t 22)]) .ret) (qwToTableS r))) (qwToTableS r))
def qwToTableS_1 (r : (List GTable)) : Exit → St → Prop := (blockK 0 (qwToTableS_0 r))
def stwToTableS_L0 (p0 : (List GTable)) (x4 : Int) (b7_0 : (List GTable)) : St := ⟨[(0, (.d (.sl 2 (p0.map cGTable)))), (3, (.msl 7 2 0 b7_0.length b7_0.length)), (4, (.d (.i .i64 x4)))], [(7, rowsV (b7_0.map cGTable))]⟩
def acwToTable : AC := (.seq (.ops [.box 1 (.t 0), .alc 2 [(.d (.s (bs []))), (.nil 2)]]) (.seq (.ops [.alc 3 [(.d (.s (bs []))), (.nil 2)]]) (.seq (.ops [.fa 4 0 (.t 1), .ld 5 1 false (.t 4), .fa 6 0 (.t 3), .st 1 (.t 6) (.t 5)]) (.seq (.ops [.fa 7 1 (.t 1), .ld 8 1 false (.t 7), .call (some 9) 197 [(.t 8)], .fa 10 1 (.t 3), .st 1 (.t 10) (.t 9)]) (.seq (.ops [.ld 11 2 true (.t 3), .st 2 (.t 2) (.t 11)]) .ret)))))
theorem trwToTable : trFn Try.prog 159 = some (acwToTable, [.ld 0 2 true (.t 2)], 12) := by kernel_rfl
def qwToTable (r : GTable) : Exit → St → Prop := retQ [.ld 0 2 true (.t 2)] fun x _ => x = (fun y => (vGTable y)) r
def acwToColS_L0 : AC := (.loop (.seq (.seq (.ops [.mv 8 (.t 4), .mv 9 (.t 0), .len 10 (.t 9), .bin 11 .lss (.t 8) (.t 10)]) (.cond (.t 11) .skip (.exit 0))) (.seq (.block 1 (.ops [.mv 14 (.t 3), .mv 15 (.t 4), .mv 16 (.t 0), .mv 17 (.t 4), .ia 18 2 (.t 16) (.t 17), .ld 19 2 true (.t 18), .call (some 20) 216 [(.t 19)], .ia 21 2 (.t 14) (.t 15), .st 2 (.t 21) (.t 20)])) (.ops [.mv 12 (.t 4), .bin 13 .add (.t 12) (.c (.d (.i .i64 1))), .asg 4 (.t 13)]))))
def acwToColS : AC := (.seq (.ops [.asg 2 (.c (.nil 2))]) (.seq (.ops [.mv 5 (.t 0), .len 6 (.t 5), .mks 7 193 2 24 [(.s (bs [])), (.i .i64 0)] (.t 6) (.t 6), .asg 3 (.t 7)]) (.seq (.seq (.ops [.asg 4 (.c (.d (.i .i64 0)))]) (.block 0 acwToColS_L0)) (.seq (.ops [.mv 22 (.t 3), .asg 2 (.t 22)]) .ret))))
theorem trwToColS : trFn Try.prog 197 = some (acwToColS, [.mv 0 (.t 2)], 23) := by kernel_rfl
def qwToColS (r : (List GCol)) : Exit → St → Prop := retQ [.mv 0 (.t 2)] fun x _ => x = (fun y => (.d (.sl 2 (y.map cGCol)))) r
def qwToColS_0 (r : (List GCol)) : Exit → St → Prop := (thenK (wkK (avc Try.prog (.seq (.ops [.mv 22 (.t 3), .asg 2 (.t 22)]) .ret) (qwToColS r))) (qwToColS r))
def qwToColS_1 (r : (List GCol)) : Exit → St → Prop := (blockK 0 (qwToColS_0 r))
def stwToColS_L0 (p0 : (List GCol)) (x4 : Int) (b7_0 : (List GCol)) : St := ⟨[(0, (.d (.sl 2 (p0.map cGCol)))), (3, (.msl 7 2 0 b7_0.length b7_0.length)), (4, (.d (.i .i64 x4)))], [(7, rowsV (b7_0.map cGCol))]⟩
def acwToCol : AC := (.seq (.ops [.box 1 (.t 0), .alc 2 [(.d (.s (bs []))), (.d (.i .i64 0))]]) (.seq (.ops [.alc 3 [(.d (.s (bs []))), (.d (.i .i64 0))]]) (.seq (.ops [.fa 4 0 (.t 1), .ld 5 1 false (.t 4), .fa 6 0 (.t 3), .st 1 (.t 6) (.t 5)]) (.seq (.ops [.fa 7 1 (.t 1), .ld 8 1 false (.t 7), .fa 9 1 (.t 3), .st 1 (.t 9) (.t 8)]) (.seq (.ops [.ld 10 2 true (.t 3), .st 2 (.t 2) (.t 10)]) .ret)))))
theorem trwToCol : trFn Try.prog 216 = some (acwToCol, [.ld 0 2 true (.t 2)], 11) := by kernel_rfl
def qwToCol (r : GCol) : Exit → St → Prop := retQ [.ld 0 2 true (.t 2)] fun x _ => x = (fun y => (vGCol y)) r
def acwToValueSS_L0 : AC := (.loop (.seq (.seq (.ops [.mv 8 (.t 4), .mv 9 (.t 0), .len 10 (.t 9), .bin 11 .lss (.t 8) (.t 10)]) (.cond (.t 11) .skip (.exit 0))) (.seq (.block 1 (.ops [.mv 14 (.t 3), .mv 15 (.t 4), .mv 16 (.t 0), .mv 17 (.t 4), .ia 18 1 (.t 16) (.t 17), .ld 19 1 false (.t 18), .call (some 20) 32 [(.t 19)], .ia 21 1 (.t 14) (.t 15), .st 1 (.t 21) (.t 20)])) (.ops [.mv 12 (.t 4), .bin 13 .add (.t 12) (.c (.d (.i .i64 1))), .asg 4 (.t 13)]))))
def acwToValueSS : AC := (.seq (.ops [.asg 2 (.c (.nil 1))]) (.seq (.ops [.mv 5 (.t 0), .len 6 (.t 5), .mks 7 50 1 24 [(.sl 3 [])] (.t 6) (.t 6), .asg 3 (.t 7)]) (.seq (.seq (.ops [.asg 4 (.c (.d (.i .i64 0)))]) (.block 0 acwToValueSS_L0)) (.seq (.ops [.mv 22 (.t 3), .asg 2 (.t 22)]) .ret))))
theorem trwToValueSS : trFn Try.prog 198 = some (acwToValueSS, [.mv 0 (.t 2)], 23) := by kernel_rfl
def qwToValueSS (r : (List (List GValue))) : Exit → St → Prop := retQ [.mv 0 (.t 2)] fun x _ => x = (fun y => (.d (.sl 1 (y.map (cSl 3 cGValue))))) r
def qwToValueSS_0 (r : (List (List GValue))) : Exit → St → Prop := (thenK (wkK (avc Try.prog (.seq (.ops [.mv 22 (.t 3), .asg 2 (.t 22)]) .ret) (qwToValueSS r))) (qwToValueSS r))
def qwToValueSS_1 (r : (List (List GValue))) : Exit → St → Prop := (blockK 0 (qwToValueSS_0 r))
def stwToValueSS_L0 (p0 : (List (List GValue))) (x4 : Int) (b7_0 : (List (List GValue))) : St := ⟨[(0, (.d (.sl 1 (p0.map (cSl 3 cGValue))))), (3, (.msl 7 1 0 b7_0.length b7_0.length)), (4, (.d (.i .i64 x4)))], [(7, rowsV (b7_0.map (cSl 3 cGValue)))]⟩
theorem koGCol (x : GCol) (h : ∀ d ∈ cGCol x, OkD d) : okGCol x := ⟨ko_s _ (ko_sub h 0 1), ko_i _ (ko_sub h 1 1)⟩
theorem koGTable (x : GTable) (h : ∀ d ∈ cGTable x, OkD d) : okGTable x := ⟨ko_s _ (ko_sub h 0 1), ko_l _ (fun y hy => koGCol y hy) (ko_sub h 1 1)⟩
theorem koGCatalog (x : GCatalog) (h : ∀ d ∈ cGCatalog x, OkD d) : okGCatalog x := ko_l _ (fun y hy => koGTable y hy) (ko_sub h 0 1)
theorem koGValue (x : GValue) (h : ∀ d ∈ cGValue x, OkD d) : okGValue x := ⟨ko_i _ (ko_sub h 0 1), ko_i _ (ko_sub h 1 1), ko_s _ (ko_sub h 2 1)⟩
theorem koGData (x : GData) (h : ∀ d ∈ cGData x, OkD d) : okGData x := ko_l _ (fun y hy => ko_l _ (fun y hy => koGValue y hy) hy) (ko_sub h 0 1)
theorem koGDb (x : GDb) (h : ∀ d ∈ cGDb x, OkD d) : okGDb x := ko_l _ (fun y hy => koGData y hy) (ko_sub h 0 1)
theorem de9 {l : List D} (h : WtC Try.prog 9 l) : ∃ x : (List UInt8), l = cStr x := (wt_s h (by kernel_rfl))
theorem de3 {l : List D} (h : WtC Try.prog 3 l) : ∃ x : Int, l = cI x := (wt_i h (k := .i64) (by kernel_rfl))
theorem de240 {l : List D} (h : WtC Try.prog 240 l) : ∃ x : GCol, l = cGCol x := by
  obtain ⟨x0, e0⟩ := de9 (wt_fld h 0 (off := 0) (n := 1) (by kernel_rfl))
  obtain ⟨x1, e1⟩ := de3 (wt_fld h 1 (off := 1) (n := 1) (by kernel_rfl))
  exact ⟨⟨x0, x1⟩, (dr1 (m := 1) (by kernel_rfl) e0 (dr1 (m := 2) (by kernel_rfl) e1 (dr0 (wt_len h (n := 2) (by kernel_rfl)))))⟩
theorem de183 {l : List D} (h : WtC Try.prog 183 l) : ∃ x : (List GCol), l = (cSl 2 cGCol) x := (wt_sl h (e := 240) (n := 2) (c := cGCol) (by kernel_rfl) (by kernel_rfl) fun x hx => de240 hx)
theorem de185 {l : List D} (h : WtC Try.prog 185 l) : ∃ x : GTable, l = cGTable x := by
  obtain ⟨x0, e0⟩ := de9 (wt_fld h 0 (off := 0) (n := 1) (by kernel_rfl))
  obtain ⟨x1, e1⟩ := de183 (wt_fld h 1 (off := 1) (n := 1) (by kernel_rfl))
  exact ⟨⟨x0, x1⟩, (dr1 (m := 1) (by kernel_rfl) e0 (dr1 (m := 2) (by kernel_rfl) e1 (dr0 (wt_len h (n := 2) (by kernel_rfl)))))⟩
theorem de62 {l : List D} (h : WtC Try.prog 62 l) : ∃ x : (List GTable), l = (cSl 2 cGTable) x := (wt_sl h (e := 185) (n := 2) (c := cGTable) (by kernel_rfl) (by kernel_rfl) fun x hx => de185 hx)
theorem de64 {l : List D} (h : WtC Try.prog 64 l) : ∃ x : GCatalog, l = cGCatalog x := by
  obtain ⟨x0, e0⟩ := de62 (wt_fld h 0 (off := 0) (n := 1) (by kernel_rfl))
  exact ⟨⟨x0⟩, (dr1 (m := 1) (by kernel_rfl) e0 (dr0 (wt_len h (n := 1) (by kernel_rfl))))⟩
theorem de39 {l : List D} (h : WtC Try.prog 39 l) : ∃ x : GValue, l = cGValue x := by
  obtain ⟨x0, e0⟩ := de3 (wt_fld h 0 (off := 0) (n := 1) (by kernel_rfl))
  obtain ⟨x1, e1⟩ := de3 (wt_fld h 1 (off := 1) (n := 1) (by kernel_rfl))
  obtain ⟨x2, e2⟩ := de9 (wt_fld h 2 (off := 2) (n := 1) (by kernel_rfl))
  exact ⟨⟨x0, x1, x2⟩, (dr1 (m := 1) (by kernel_rfl) e0 (dr1 (m := 2) (by kernel_rfl) e1 (dr1 (m := 3) (by kernel_rfl) e2 (dr0 (wt_len h (n := 3) (by kernel_rfl))))))⟩
theorem de51 {l : List D} (h : WtC Try.prog 51 l) : ∃ x : (List GValue), l = (cSl 3 cGValue) x := (wt_sl h (e := 39) (n := 3) (c := cGValue) (by kernel_rfl) (by kernel_rfl) fun x hx => de39 hx)
theorem de187 {l : List D} (h : WtC Try.prog 187 l) : ∃ x : (List (List GValue)), l = (cSl 1 (cSl 3 cGValue)) x := (wt_sl h (e := 51) (n := 1) (c := (cSl 3 cGValue)) (by kernel_rfl) (by kernel_rfl) fun x hx => de51 hx)
theorem de189 {l : List D} (h : WtC Try.prog 189 l) : ∃ x : GData, l = cGData x := by
  obtain ⟨x0, e0⟩ := de187 (wt_fld h 0 (off := 0) (n := 1) (by kernel_rfl))
  exact ⟨⟨x0⟩, (dr1 (m := 1) (by kernel_rfl) e0 (dr0 (wt_len h (n := 1) (by kernel_rfl))))⟩
theorem de65 {l : List D} (h : WtC Try.prog 65 l) : ∃ x : (List GData), l = (cSl 1 cGData) x := (wt_sl h (e := 189) (n := 1) (c := cGData) (by kernel_rfl) (by kernel_rfl) fun x hx => de189 hx)
theorem de67 {l : List D} (h : WtC Try.prog 67 l) : ∃ x : GDb, l = cGDb x := by
  obtain ⟨x0, e0⟩ := de65 (wt_fld h 0 (off := 0) (n := 1) (by kernel_rfl))
  exact ⟨⟨x0⟩, (dr1 (m := 1) (by kernel_rfl) e0 (dr0 (wt_len h (n := 1) (by kernel_rfl))))⟩
theorem OK_iColAt_1_x0 (p0 : GCol) (c0_0 : (List UInt8)) : FOkB Try.prog 218 [(vGCol p0), (.ptr 1000000 0)] [(1000000, [(.d (.s (bs c0_0)))])] (fun (y : Bool) => (.d (.b y))) (fun (y : Bool) => [(1000000, [(.d (.s (bs c0_0)))])]) (iColAt_1_x0 p0 c0_0) := by
  intro r h
  rw [iColAt_1_x0] at h
  refine acalls_of_fn triColAt_1_x0 (Nat.le_of_ble_eq_true rfl) (by intro n hn; simp at hn; omega) ?_
  show avc Try.prog aciColAt_1_x0 (qiColAt_1_x0 c0_0 _) ⟨[(0, (vGCol p0)), (1, (.ptr 1000000 0))], [(1000000, [(.d (.s (bs c0_0)))])]⟩
  delta aciColAt_1_x0
  refine seq_in ?_
  refine ops_in ?_
  refine sts_ok 2 (s' := ⟨[(3, (.d (.b false))), (2, (.ptr 2 0)), (0, (vGCol p0)), (1, (.ptr 1000000 0))], [(2, [(.d (.s (bs p0.name))), (.d (.i .i64 p0.type))]), (1000000, [(.d (.s (bs c0_0)))])]⟩) (by kernel_rfl) ?_
  refine nil_in ?_
  refine next_in ?_
  refine seq_in ?_
  refine ops_in ?_
  refine sts_ok 5 (s' := ⟨[(3, (.d (.b (decide (p0.name = c0_0))))), (7, (.d (.b (decide (p0.name = c0_0))))), (6, (.d (.s (bs c0_0)))), (5, (.d (.s (bs p0.name)))), (4, (.ptr 2 0)), (3, (.d (.b false))), (2, (.ptr 2 0)), (0, (vGCol p0)), (1, (.ptr 1000000 0))], [(2, [(.d (.s (bs p0.name))), (.d (.i .i64 p0.type))]), (1000000, [(.d (.s (bs c0_0)))])]⟩) (by kernel_rfl) ?_
  refine nil_in ?_
  refine next_in ?_
  refine ret_in ?_
  have h := Option.some.inj h; subst h
  exact ret1_step (v := (.d (.b (decide (p0.name = c0_0))))) (by kernel_rfl) (by kernel_rfl) ⟨by kernel_rfl, by kernel_rfl, trivial⟩
theorem OKs_gSlices_IndexFunc_impl_Col_impl_Col_x0_L0 (p0 : (List GCol)) (c0_0 : (List UInt8)) : (∀ (x8 : Int) (r : Int), gSlices_IndexFunc_impl_Col_impl_Col_x0_L0 p0 c0_0 x8 = some r → avc Try.prog acgSlices_IndexFunc_impl_Col_impl_Col_x0_L0 (qgSlices_IndexFunc_impl_Col_impl_Col_x0_1 c0_0 r) (stgSlices_IndexFunc_impl_Col_impl_Col_x0_L0 p0 c0_0 x8)) := by
  refine gSlices_IndexFunc_impl_Col_impl_Col_x0_L0.partial_correctness p0 c0_0 (fun x8 r => avc Try.prog acgSlices_IndexFunc_impl_Col_impl_Col_x0_L0 (qgSlices_IndexFunc_impl_Col_impl_Col_x0_1 c0_0 r) (stgSlices_IndexFunc_impl_Col_impl_Col_x0_L0 p0 c0_0 x8)) ?_
  · intro F_gSlices_IndexFunc_impl_Col_impl_Col_x0_L0 OK_gSlices_IndexFunc_impl_Col_impl_Col_x0_L0 x8 r h
    delta acgSlices_IndexFunc_impl_Col_impl_Col_x0_L0
    refine loop_unroll ?_
    refine seq_in ?_
    refine ops_in ?_
    refine sts_ok 1 (s' := ⟨(9, (.d (.b (decide (x8 < (p0.length : Int)))))) :: (stgSlices_IndexFunc_impl_Col_impl_Col_x0_L0 p0 c0_0 x8).env, (stgSlices_IndexFunc_impl_Col_impl_Col_x0_L0 p0 c0_0 x8).bx⟩) (by kernel_rfl) ?_
    refine nil_in ?_
    refine next_in ?_
    refine seq_in ?_
    refine cond_step h (by kernel_rfl) ?_ ?_
    · clear h; intro h
      refine skip_in ?_
      refine next_in ?_
      refine seq_in ?_
      refine block_in ?_
      refine seq_in ?_
      refine ops_in ?_
      refine sts_ok 2 (s' := ⟨(5, (.d (.i .i64 x8))) :: (10, (.d (.i .i64 x8))) :: (9, (.d (.b (decide (x8 < (p0.length : Int)))))) :: (stgSlices_IndexFunc_impl_Col_impl_Col_x0_L0 p0 c0_0 x8).env, (stgSlices_IndexFunc_impl_Col_impl_Col_x0_L0 p0 c0_0 x8).bx⟩) (by kernel_rfl) ?_
      refine nil_in ?_
      refine next_in ?_
      refine seq_in ?_
      refine ops_in ?_
      refine sts_ok 3 (s' := ⟨(13, (.d (.i .i64 x8))) :: (12, (.d (.sl 2 (p0.map cGCol)))) :: (11, (.fn 218 [(.ptr 1000000 0)])) :: (5, (.d (.i .i64 x8))) :: (10, (.d (.i .i64 x8))) :: (9, (.d (.b (decide (x8 < (p0.length : Int)))))) :: (stgSlices_IndexFunc_impl_Col_impl_Col_x0_L0 p0 c0_0 x8).env, (stgSlices_IndexFunc_impl_Col_impl_Col_x0_L0 p0 c0_0 x8).bx⟩) (by kernel_rfl) ?_
      refine v_step (m := idx p0 x8) (v' := fun y => (.rp [(.s (bs y.name)), (.i .i64 y.type)])) h rfl rfl (fun y hy => vop_ia (l := p0) (f := cGCol) (g := cGCol) (k := .i64) hy (fun _ => rfl) (by kernel_rfl) (by kernel_rfl) (by kernel_rfl)) ?_
      clear h; intro y1 h
      refine sts_ok 1 (s' := ⟨(15, (vGCol y1)) :: (14, (.rp [(.s (bs y1.name)), (.i .i64 y1.type)])) :: (13, (.d (.i .i64 x8))) :: (12, (.d (.sl 2 (p0.map cGCol)))) :: (11, (.fn 218 [(.ptr 1000000 0)])) :: (5, (.d (.i .i64 x8))) :: (10, (.d (.i .i64 x8))) :: (9, (.d (.b (decide (x8 < (p0.length : Int)))))) :: (stgSlices_IndexFunc_impl_Col_impl_Col_x0_L0 p0 c0_0 x8).env, (stgSlices_IndexFunc_impl_Col_impl_Col_x0_L0 p0 c0_0 x8).bx⟩) (by kernel_rfl) ?_
      refine callvg_step ⟨[(1000000, 1000000)], [], [], [], [], [], [], []⟩ (m := iColAt_1_x0 y1 c0_0) (caps := [(.ptr 1000000 0)]) (S' := fun (y : Bool) => ⟨(16, (.d (.b y))) :: (15, (vGCol y1)) :: (14, (.rp [(.s (bs y1.name)), (.i .i64 y1.type)])) :: (13, (.d (.i .i64 x8))) :: (12, (.d (.sl 2 (p0.map cGCol)))) :: (11, (.fn 218 [(.ptr 1000000 0)])) :: (5, (.d (.i .i64 x8))) :: (10, (.d (.i .i64 x8))) :: (9, (.d (.b (decide (x8 < (p0.length : Int)))))) :: (stgSlices_IndexFunc_impl_Col_impl_Col_x0_L0 p0 c0_0 x8).env, [(1000000, [(.d (.s (bs c0_0)))])]⟩) h (OK_iColAt_1_x0 y1 c0_0) (by kernel_rfl) (by kernel_rfl) (by kernel_rfl) (by kernel_rfl) (by kernel_rfl) (by kernel_rfl) (fun y => by kernel_rfl) (fun y => by kernel_rfl) ?_
      clear h; intro y2 h
      refine nil_in ?_
      refine next_in ?_
      refine cond_step h (by kernel_rfl) ?_ ?_
      · clear h; intro h
        refine seq_in ?_
        refine ops_in ?_
        refine sts_ok 2 (s' := ⟨(4, (.d (.i .i64 x8))) :: (17, (.d (.i .i64 x8))) :: (16, (.d (.b y2))) :: (15, (vGCol y1)) :: (14, (.rp [(.s (bs y1.name)), (.i .i64 y1.type)])) :: (13, (.d (.i .i64 x8))) :: (12, (.d (.sl 2 (p0.map cGCol)))) :: (11, (.fn 218 [(.ptr 1000000 0)])) :: (5, (.d (.i .i64 x8))) :: (10, (.d (.i .i64 x8))) :: (9, (.d (.b (decide (x8 < (p0.length : Int)))))) :: (stgSlices_IndexFunc_impl_Col_impl_Col_x0_L0 p0 c0_0 x8).env, [(1000000, [(.d (.s (bs c0_0)))])]⟩) (by kernel_rfl) ?_
        refine nil_in ?_
        refine next_in ?_
        refine ret_in ?_
        refine blockK_ret ?_
        refine thenK_ret ?_
        refine thenK_ret ?_
        refine blockK_ret ?_
        refine thenK_ret ?_
        have h := Option.some.inj h; subst h
        exact ret1_step (v := (.d (.i .i64 x8))) (by kernel_rfl) (by kernel_rfl) ⟨by kernel_rfl, by kernel_rfl, trivial⟩
      · clear h; intro h
        refine skip_in ?_
        refine blockK_norm ?_
        refine next_in ?_
        refine ops_in ?_
        refine sts_ok 2 (s' := ⟨(8, (.d (.i .i64 (IntKind.wrap .i64 (x8 + 1))))) :: (18, (.d (.i .i64 (IntKind.wrap .i64 (x8 + 1))))) :: (16, (.d (.b y2))) :: (15, (vGCol y1)) :: (14, (.rp [(.s (bs y1.name)), (.i .i64 y1.type)])) :: (13, (.d (.i .i64 x8))) :: (12, (.d (.sl 2 (p0.map cGCol)))) :: (11, (.fn 218 [(.ptr 1000000 0)])) :: (5, (.d (.i .i64 x8))) :: (10, (.d (.i .i64 x8))) :: (9, (.d (.b (decide (x8 < (p0.length : Int)))))) :: (stgSlices_IndexFunc_impl_Col_impl_Col_x0_L0 p0 c0_0 x8).env, [(1000000, [(.d (.s (bs c0_0)))])]⟩) (by kernel_rfl) ?_
        refine nil_in ?_
        exact loop_back (s' := stgSlices_IndexFunc_impl_Col_impl_Col_x0_L0 p0 c0_0 (IntKind.wrap .i64 (x8 + 1))) (wk_ren [] (by kernel_rfl) (er_cons (vr_same (by kernel_rfl) (by kernel_rfl)) (er_cons (vr_same (by kernel_rfl) (by kernel_rfl)) (er_cons (vr_same (by kernel_rfl) (by kernel_rfl)) (er_cons (vr_same (by kernel_rfl) (by kernel_rfl)) (er_nil))))) (br_same (by kernel_rfl) (by kernel_rfl) (br_nil))) (OK_gSlices_IndexFunc_impl_Col_impl_Col_x0_L0 (IntKind.wrap .i64 (x8 + 1)) _ h)
    · clear h; intro h
      refine exit_in ?_
      refine thenK_exit ?_
      refine thenK_exit ?_
      refine blockK_here ?_
      refine next_in ?_
      refine seq_in ?_
      refine ops_in ?_
      refine sts_ok 1 (s' := ⟨(4, (.d (.i .i64 (-1)))) :: (9, (.d (.b (decide (x8 < (p0.length : Int)))))) :: (stgSlices_IndexFunc_impl_Col_impl_Col_x0_L0 p0 c0_0 x8).env, (stgSlices_IndexFunc_impl_Col_impl_Col_x0_L0 p0 c0_0 x8).bx⟩) (by kernel_rfl) ?_
      refine nil_in ?_
      refine next_in ?_
      refine ret_in ?_
      have h := Option.some.inj h; subst h
      exact ret1_step (v := (.d (.i .i64 (-1)))) (by kernel_rfl) (by kernel_rfl) ⟨by kernel_rfl, by kernel_rfl, trivial⟩
theorem OK_gSlices_IndexFunc_impl_Col_impl_Col_x0_L0 (p0 : (List GCol)) (c0_0 : (List UInt8)) (x8 : Int) (r : Int) (h : gSlices_IndexFunc_impl_Col_impl_Col_x0_L0 p0 c0_0 x8 = some r) : avc Try.prog acgSlices_IndexFunc_impl_Col_impl_Col_x0_L0 (qgSlices_IndexFunc_impl_Col_impl_Col_x0_1 c0_0 r) (stgSlices_IndexFunc_impl_Col_impl_Col_x0_L0 p0 c0_0 x8) := (OKs_gSlices_IndexFunc_impl_Col_impl_Col_x0_L0 p0 c0_0) x8 r h
theorem OK_gSlices_IndexFunc_impl_Col_impl_Col_x0 (p0 : (List GCol)) (c0_0 : (List UInt8)) : FOkB Try.prog 217 [(.d (.sl 2 (p0.map cGCol))), (.fn 218 [(.ptr 1000000 0)])] [(1000000, [(.d (.s (bs c0_0)))])] (fun (y : Int) => (.d (.i .i64 y))) (fun (y : Int) => [(1000000, [(.d (.s (bs c0_0)))])]) (gSlices_IndexFunc_impl_Col_impl_Col_x0 p0 c0_0) := by
  intro r h
  rw [gSlices_IndexFunc_impl_Col_impl_Col_x0] at h
  refine acalls_of_fn trgSlices_IndexFunc_impl_Col_impl_Col_x0 (Nat.le_of_ble_eq_true rfl) (by intro n hn; simp at hn; omega) ?_
  show avc Try.prog acgSlices_IndexFunc_impl_Col_impl_Col_x0 (qgSlices_IndexFunc_impl_Col_impl_Col_x0 c0_0 _) ⟨[(0, (.d (.sl 2 (p0.map cGCol)))), (1, (.fn 218 [(.ptr 1000000 0)]))], [(1000000, [(.d (.s (bs c0_0)))])]⟩
  delta acgSlices_IndexFunc_impl_Col_impl_Col_x0
  refine seq_in ?_
  refine ops_in ?_
  refine sts_ok 1 (s' := ⟨[(4, (.d (.i .i64 0))), (0, (.d (.sl 2 (p0.map cGCol)))), (1, (.fn 218 [(.ptr 1000000 0)]))], [(1000000, [(.d (.s (bs c0_0)))])]⟩) (by kernel_rfl) ?_
  refine nil_in ?_
  refine next_in ?_
  refine seq_in ?_
  refine seq_in ?_
  refine ops_in ?_
  refine sts_ok 1 (s' := ⟨[(6, (.d (.sl 2 (p0.map cGCol)))), (4, (.d (.i .i64 0))), (0, (.d (.sl 2 (p0.map cGCol)))), (1, (.fn 218 [(.ptr 1000000 0)]))], [(1000000, [(.d (.s (bs c0_0)))])]⟩) (by kernel_rfl) ?_
  refine p_step (v' := (.d (.i .i64 (p0.length : Int)))) rfl rfl (vop_len (sz := 2) (l := p0) (f := cGCol) (by kernel_rfl) (by kernel_rfl)) ?_
  refine sts_ok 1 (s' := ⟨[(8, (.d (.i .i64 0))), (7, (.d (.i .i64 (p0.length : Int)))), (6, (.d (.sl 2 (p0.map cGCol)))), (4, (.d (.i .i64 0))), (0, (.d (.sl 2 (p0.map cGCol)))), (1, (.fn 218 [(.ptr 1000000 0)]))], [(1000000, [(.d (.s (bs c0_0)))])]⟩) (by kernel_rfl) ?_
  refine nil_in ?_
  refine next_in ?_
  refine block_in ?_
  exact loop_go (s' := stgSlices_IndexFunc_impl_Col_impl_Col_x0_L0 p0 c0_0 0) (wk_ren [] (by kernel_rfl) (er_cons (vr_same (by kernel_rfl) (by kernel_rfl)) (er_cons (vr_same (by kernel_rfl) (by kernel_rfl)) (er_cons (vr_same (by kernel_rfl) (by kernel_rfl)) (er_cons (vr_same (by kernel_rfl) (by kernel_rfl)) (er_nil))))) (br_same (by kernel_rfl) (by kernel_rfl) (br_nil))) (OK_gSlices_IndexFunc_impl_Col_impl_Col_x0_L0 p0 c0_0 0 _ h)
theorem OK_iColAt (p0 : GTable) (p1 : (List UInt8)) : FOk Try.prog 200 [(vGTable p0), (.d (.s (bs p1)))] (fun y => (.d (.i .i64 y))) (iColAt p0 p1) := by
  intro r h
  rw [iColAt] at h
  refine acalls_of_fn triColAt (Nat.le_of_ble_eq_true rfl) (by simp) ?_
  show avc Try.prog aciColAt (qiColAt _) ⟨[(0, (vGTable p0)), (1, (.d (.s (bs p1))))], []⟩
  delta aciColAt
  refine seq_in ?_
  refine ops_in ?_
  refine sts_ok 3 (s' := ⟨[(4, (.d (.i .i64 0))), (3, (.ptr 3 0)), (2, (.ptr 2 0)), (0, (vGTable p0)), (1, (.d (.s (bs p1))))], [(3, [(.d (.s (bs p1)))]), (2, [(.d (.s (bs p0.name))), (.d (.sl 2 (p0.cols.map cGCol)))])]⟩) (by kernel_rfl) ?_
  refine nil_in ?_
  refine next_in ?_
  refine seq_in ?_
  refine ops_in ?_
  refine sts_ok 3 (s' := ⟨[(7, (.fn 218 [(.ptr 3 0)])), (6, (.d (.sl 2 (p0.cols.map cGCol)))), (5, (.ptr 2 1)), (4, (.d (.i .i64 0))), (3, (.ptr 3 0)), (2, (.ptr 2 0)), (0, (vGTable p0)), (1, (.d (.s (bs p1))))], [(3, [(.d (.s (bs p1)))]), (2, [(.d (.s (bs p0.name))), (.d (.sl 2 (p0.cols.map cGCol)))])]⟩) (by kernel_rfl) ?_
  refine callg_step ⟨[(1000000, 3)], [], [], [], [], [], [], []⟩ (m := gSlices_IndexFunc_impl_Col_impl_Col_x0 p0.cols p1) (S' := fun (y : Int) => ⟨[(8, (.d (.i .i64 y))), (7, (.fn 218 [(.ptr 3 0)])), (6, (.d (.sl 2 (p0.cols.map cGCol)))), (5, (.ptr 2 1)), (4, (.d (.i .i64 0))), (3, (.ptr 3 0)), (2, (.ptr 2 0)), (0, (vGTable p0)), (1, (.d (.s (bs p1))))], [(3, [(.d (.s (bs p1)))]), (2, [(.d (.s (bs p0.name))), (.d (.sl 2 (p0.cols.map cGCol)))])]⟩) h (OK_gSlices_IndexFunc_impl_Col_impl_Col_x0 p0.cols p1) (by kernel_rfl) (by kernel_rfl) (by kernel_rfl) (by kernel_rfl) (fun y => by kernel_rfl) (fun y => by kernel_rfl) ?_
  clear h; intro y1 h
  refine sts_ok 1 (s' := ⟨[(4, (.d (.i .i64 y1))), (8, (.d (.i .i64 y1))), (7, (.fn 218 [(.ptr 3 0)])), (6, (.d (.sl 2 (p0.cols.map cGCol)))), (5, (.ptr 2 1)), (4, (.d (.i .i64 0))), (3, (.ptr 3 0)), (2, (.ptr 2 0)), (0, (vGTable p0)), (1, (.d (.s (bs p1))))], [(3, [(.d (.s (bs p1)))]), (2, [(.d (.s (bs p0.name))), (.d (.sl 2 (p0.cols.map cGCol)))])]⟩) (by kernel_rfl) ?_
  refine nil_in ?_
  refine next_in ?_
  refine ret_in ?_
  have h := Option.some.inj h; subst h
  exact ret1_step (v := (.d (.i .i64 y1))) (by kernel_rfl) (by kernel_rfl) (by kernel_rfl)
theorem OK_iNameOk (p0 : (List UInt8)) : FOk Try.prog 199 [(.d (.s (bs p0)))] (fun y => (.d (.b y))) (iNameOk p0) := by
  intro r h
  rw [iNameOk] at h
  refine acalls_of_fn triNameOk (Nat.le_of_ble_eq_true rfl) (by simp) ?_
  show avc Try.prog aciNameOk (qiNameOk _) ⟨[(0, (.d (.s (bs p0))))], []⟩
  delta aciNameOk
  refine seq_in ?_
  refine ops_in ?_
  refine sts_ok 1 (s' := ⟨[(2, (.d (.b false))), (0, (.d (.s (bs p0))))], []⟩) (by kernel_rfl) ?_
  refine nil_in ?_
  refine next_in ?_
  refine seq_in ?_
  refine ops_in ?_
  refine sts_ok 4 (s' := ⟨[(6, (.d (.b (decide (1 ≤ (p0.length : Int)))))), (5, (.d (.b (decide (1 ≤ (p0.length : Int)))))), (4, (.d (.i .i64 (p0.length : Int)))), (3, (.d (.s (bs p0)))), (2, (.d (.b false))), (0, (.d (.s (bs p0))))], []⟩) (by kernel_rfl) ?_
  refine gp_step (p := true) (b := (decide (1 ≤ (p0.length : Int)))) (v' := (.d (.s (bs p0)))) (by kernel_rfl) rfl rfl (fun hc => vop_val1 (by kernel_rfl) (by kernel_rfl)) ?_
  refine gp_step (p := true) (b := (decide (1 ≤ (p0.length : Int)))) (v' := (.d (.i .i64 (p0.length : Int)))) (by kernel_rfl) rfl rfl (fun hc => vop_val1 (Eq.trans (b := ([(true && ((decide (1 ≤ (p0.length : Int))) == true))] : List Bool).all id) (by kernel_rfl) (all_c hc rfl)) (by kernel_rfl)) ?_
  refine gp_step (p := true) (b := (decide (1 ≤ (p0.length : Int)))) (v' := (.d (.b (decide ((p0.length : Int) ≤ 20))))) (by kernel_rfl) rfl rfl (fun hc => vop_val1 (Eq.trans (b := ([(true && ((decide (1 ≤ (p0.length : Int))) == true))] : List Bool).all id) (by kernel_rfl) (all_c hc rfl)) (by kernel_rfl)) ?_
  refine p_step (v' := (.d (.b (if (decide (1 ≤ (p0.length : Int))) = true then (decide ((p0.length : Int) ≤ 20)) else false)))) rfl rfl (vop_pick (b := (decide (1 ≤ (p0.length : Int)))) (p := (true && ((decide (1 ≤ (p0.length : Int))) == true))) (u := (decide ((p0.length : Int) ≤ 20))) (q := true) (v := false) (by kernel_rfl) (by kernel_rfl) (by kernel_rfl) (by kernel_rfl) (fun hb => gc_t rfl hb) (fun _ => rfl)) ?_
  refine sts_ok 1 (s' := ⟨[(2, (.d (.b (if (decide (1 ≤ (p0.length : Int))) = true then (decide ((p0.length : Int) ≤ 20)) else false)))), (10, (.d (.b (if (decide (1 ≤ (p0.length : Int))) = true then (decide ((p0.length : Int) ≤ 20)) else false)))), (9, (.ite (true && ((decide (1 ≤ (p0.length : Int))) == true)) (.d (.b (decide ((p0.length : Int) ≤ 20)))))), (8, (.ite (true && ((decide (1 ≤ (p0.length : Int))) == true)) (.d (.i .i64 (p0.length : Int))))), (7, (.ite (true && ((decide (1 ≤ (p0.length : Int))) == true)) (.d (.s (bs p0))))), (6, (.d (.b (decide (1 ≤ (p0.length : Int)))))), (5, (.d (.b (decide (1 ≤ (p0.length : Int)))))), (4, (.d (.i .i64 (p0.length : Int)))), (3, (.d (.s (bs p0)))), (2, (.d (.b false))), (0, (.d (.s (bs p0))))], []⟩) (by kernel_rfl) ?_
  refine nil_in ?_
  refine next_in ?_
  refine ret_in ?_
  have h := Option.some.inj h; subst h
  exact ret1_step (v := (.d (.b (if (decide (1 ≤ (p0.length : Int))) = true then (decide ((p0.length : Int) ≤ 20)) else false)))) (by kernel_rfl) (by kernel_rfl) (by kernel_rfl)
theorem OKs_iIsTable_L0 (p0 : GTable) : (∀ (x8 : Int) (r : Bool), iIsTable_L0 p0 x8 = some r → avc Try.prog aciIsTable_L0 (qiIsTable_1 r) (stiIsTable_L0 p0 x8)) := by
  refine iIsTable_L0.partial_correctness p0 (fun x8 r => avc Try.prog aciIsTable_L0 (qiIsTable_1 r) (stiIsTable_L0 p0 x8)) ?_
  · intro F_iIsTable_L0 OK_iIsTable_L0 x8 r h
    delta aciIsTable_L0
    refine loop_unroll ?_
    refine seq_in ?_
    refine ops_in ?_
    refine sts_ok 1 (s' := ⟨(9, (.d (.b (decide (x8 < (p0.cols.length : Int)))))) :: (stiIsTable_L0 p0 x8).env, (stiIsTable_L0 p0 x8).bx⟩) (by kernel_rfl) ?_
    refine nil_in ?_
    refine next_in ?_
    refine seq_in ?_
    refine cond_step h (by kernel_rfl) ?_ ?_
    · clear h; intro h
      refine skip_in ?_
      refine next_in ?_
      refine seq_in ?_
      refine block_in ?_
      refine seq_in ?_
      refine ops_in ?_
      refine sts_ok 1 (s' := ⟨(10, (.d (.i .i64 x8))) :: (9, (.d (.b (decide (x8 < (p0.cols.length : Int)))))) :: (stiIsTable_L0 p0 x8).env, (stiIsTable_L0 p0 x8).bx⟩) (by kernel_rfl) ?_
      refine v_step (m := idx p0.cols x8) (v' := fun y => (.rp [(.s (bs y.name)), (.i .i64 y.type)])) h rfl rfl (fun y hy => vop_ia (l := p0.cols) (f := cGCol) (g := cGCol) (k := .i64) hy (fun _ => rfl) (by kernel_rfl) (by kernel_rfl) (by kernel_rfl)) ?_
      clear h; intro y1 h
      refine sts_ok 4 (s' := ⟨(3, (.d (.i .i64 x8))) :: (4, (.ptr 4 0)) :: (12, (vGCol y1)) :: (11, (.rp [(.s (bs y1.name)), (.i .i64 y1.type)])) :: (10, (.d (.i .i64 x8))) :: (9, (.d (.b (decide (x8 < (p0.cols.length : Int)))))) :: (stiIsTable_L0 p0 x8).env, [(4, [(.d (.s (bs y1.name))), (.d (.i .i64 y1.type))]), (1, [(.d (.s (bs p0.name))), (.d (.sl 2 (p0.cols.map cGCol)))])]⟩) (by kernel_rfl) ?_
      refine nil_in ?_
      refine next_in ?_
      refine seq_in ?_
      refine ops_in ?_
      refine sts_ok 2 (s' := ⟨(14, (.d (.s (bs y1.name)))) :: (13, (.ptr 4 0)) :: (3, (.d (.i .i64 x8))) :: (4, (.ptr 4 0)) :: (12, (vGCol y1)) :: (11, (.rp [(.s (bs y1.name)), (.i .i64 y1.type)])) :: (10, (.d (.i .i64 x8))) :: (9, (.d (.b (decide (x8 < (p0.cols.length : Int)))))) :: (stiIsTable_L0 p0 x8).env, [(4, [(.d (.s (bs y1.name))), (.d (.i .i64 y1.type))]), (1, [(.d (.s (bs p0.name))), (.d (.sl 2 (p0.cols.map cGCol)))])]⟩) (by kernel_rfl) ?_
      refine call_step (m := iNameOk y1.name) (args := [(.d (.s (bs y1.name)))]) (v' := (fun y => (.d (.b y)))) h (OK_iNameOk y1.name) (by kernel_rfl) (by kernel_rfl) (fun _ => rfl) ?_
      clear h; intro y2 h
      refine sts_ok 2 (s' := ⟨(17, (.d (.b (!y2)))) :: (16, (.d (.b (!y2)))) :: (15, (.d (.b y2))) :: (14, (.d (.s (bs y1.name)))) :: (13, (.ptr 4 0)) :: (3, (.d (.i .i64 x8))) :: (4, (.ptr 4 0)) :: (12, (vGCol y1)) :: (11, (.rp [(.s (bs y1.name)), (.i .i64 y1.type)])) :: (10, (.d (.i .i64 x8))) :: (9, (.d (.b (decide (x8 < (p0.cols.length : Int)))))) :: (stiIsTable_L0 p0 x8).env, [(4, [(.d (.s (bs y1.name))), (.d (.i .i64 y1.type))]), (1, [(.d (.s (bs p0.name))), (.d (.sl 2 (p0.cols.map cGCol)))])]⟩) (by kernel_rfl) ?_
      refine gp_step (p := true) (b := (!y2)) (v' := (.ptr 4 1)) (by kernel_rfl) rfl rfl (fun hc => vop_val1 (by kernel_rfl) (by kernel_rfl)) ?_
      refine gp_step (p := true) (b := (!y2)) (v' := (.d (.i .i64 y1.type))) (by kernel_rfl) rfl rfl (fun hc => vop_val1 (Eq.trans (b := ([(true && ((!y2) == false))] : List Bool).all id) (by kernel_rfl) (all_c hc rfl)) (by kernel_rfl)) ?_
      refine gp_step (p := true) (b := (!y2)) (v' := (.d (.b (decide (y1.type < 1))))) (by kernel_rfl) rfl rfl (fun hc => vop_val1 (Eq.trans (b := ([(true && ((!y2) == false))] : List Bool).all id) (by kernel_rfl) (all_c hc rfl)) (by kernel_rfl)) ?_
      refine p_step (v' := (.d (.b (if (!y2) = true then true else (decide (y1.type < 1)))))) rfl rfl (vop_pick (b := (!y2)) (p := true) (u := true) (q := (true && ((!y2) == false))) (v := (decide (y1.type < 1))) (by kernel_rfl) (by kernel_rfl) (by kernel_rfl) (by kernel_rfl) (fun _ => rfl) (fun hb => gc_f rfl hb)) ?_
      refine sts_ok 1 (s' := ⟨(22, (.d (.b (if (!y2) = true then true else (decide (y1.type < 1)))))) :: (21, (.d (.b (if (!y2) = true then true else (decide (y1.type < 1)))))) :: (20, (.ite (true && ((!y2) == false)) (.d (.b (decide (y1.type < 1)))))) :: (19, (.ite (true && ((!y2) == false)) (.d (.i .i64 y1.type)))) :: (18, (.ite (true && ((!y2) == false)) (.ptr 4 1))) :: (17, (.d (.b (!y2)))) :: (16, (.d (.b (!y2)))) :: (15, (.d (.b y2))) :: (14, (.d (.s (bs y1.name)))) :: (13, (.ptr 4 0)) :: (3, (.d (.i .i64 x8))) :: (4, (.ptr 4 0)) :: (12, (vGCol y1)) :: (11, (.rp [(.s (bs y1.name)), (.i .i64 y1.type)])) :: (10, (.d (.i .i64 x8))) :: (9, (.d (.b (decide (x8 < (p0.cols.length : Int)))))) :: (stiIsTable_L0 p0 x8).env, [(4, [(.d (.s (bs y1.name))), (.d (.i .i64 y1.type))]), (1, [(.d (.s (bs p0.name))), (.d (.sl 2 (p0.cols.map cGCol)))])]⟩) (by kernel_rfl) ?_
      refine gp_step (p := true) (b := (if (!y2) = true then true else (decide (y1.type < 1)))) (v' := (.ptr 4 1)) (by kernel_rfl) rfl rfl (fun hc => vop_val1 (by kernel_rfl) (by kernel_rfl)) ?_
      refine gp_step (p := true) (b := (if (!y2) = true then true else (decide (y1.type < 1)))) (v' := (.d (.i .i64 y1.type))) (by kernel_rfl) rfl rfl (fun hc => vop_val1 (Eq.trans (b := ([(true && ((if (!y2) = true then true else (decide (y1.type < 1))) == false))] : List Bool).all id) (by kernel_rfl) (all_c hc rfl)) (by kernel_rfl)) ?_
      refine gp_step (p := true) (b := (if (!y2) = true then true else (decide (y1.type < 1)))) (v' := (.d (.b (decide (3 < y1.type))))) (by kernel_rfl) rfl rfl (fun hc => vop_val1 (Eq.trans (b := ([(true && ((if (!y2) = true then true else (decide (y1.type < 1))) == false))] : List Bool).all id) (by kernel_rfl) (all_c hc rfl)) (by kernel_rfl)) ?_
      refine p_step (v' := (.d (.b (if (if (!y2) = true then true else (decide (y1.type < 1))) = true then true else (decide (3 < y1.type)))))) rfl rfl (vop_pick (b := (if (!y2) = true then true else (decide (y1.type < 1)))) (p := true) (u := true) (q := (true && ((if (!y2) = true then true else (decide (y1.type < 1))) == false))) (v := (decide (3 < y1.type))) (by kernel_rfl) (by kernel_rfl) (by kernel_rfl) (by kernel_rfl) (fun _ => rfl) (fun hb => gc_f rfl hb)) ?_
      refine sts_ok 1 (s' := ⟨(27, (.d (.b (if (if (!y2) = true then true else (decide (y1.type < 1))) = true then true else (decide (3 < y1.type)))))) :: (26, (.d (.b (if (if (!y2) = true then true else (decide (y1.type < 1))) = true then true else (decide (3 < y1.type)))))) :: (25, (.ite (true && ((if (!y2) = true then true else (decide (y1.type < 1))) == false)) (.d (.b (decide (3 < y1.type)))))) :: (24, (.ite (true && ((if (!y2) = true then true else (decide (y1.type < 1))) == false)) (.d (.i .i64 y1.type)))) :: (23, (.ite (true && ((if (!y2) = true then true else (decide (y1.type < 1))) == false)) (.ptr 4 1))) :: (22, (.d (.b (if (!y2) = true then true else (decide (y1.type < 1)))))) :: (21, (.d (.b (if (!y2) = true then true else (decide (y1.type < 1)))))) :: (20, (.ite (true && ((!y2) == false)) (.d (.b (decide (y1.type < 1)))))) :: (19, (.ite (true && ((!y2) == false)) (.d (.i .i64 y1.type)))) :: (18, (.ite (true && ((!y2) == false)) (.ptr 4 1))) :: (17, (.d (.b (!y2)))) :: (16, (.d (.b (!y2)))) :: (15, (.d (.b y2))) :: (14, (.d (.s (bs y1.name)))) :: (13, (.ptr 4 0)) :: (3, (.d (.i .i64 x8))) :: (4, (.ptr 4 0)) :: (12, (vGCol y1)) :: (11, (.rp [(.s (bs y1.name)), (.i .i64 y1.type)])) :: (10, (.d (.i .i64 x8))) :: (9, (.d (.b (decide (x8 < (p0.cols.length : Int)))))) :: (stiIsTable_L0 p0 x8).env, [(4, [(.d (.s (bs y1.name))), (.d (.i .i64 y1.type))]), (1, [(.d (.s (bs p0.name))), (.d (.sl 2 (p0.cols.map cGCol)))])]⟩) (by kernel_rfl) ?_
      refine gp_step (p := true) (b := (if (if (!y2) = true then true else (decide (y1.type < 1))) = true then true else (decide (3 < y1.type)))) (v' := (vGTable p0)) (by kernel_rfl) rfl rfl (fun hc => vop_val1 (by kernel_rfl) (by kernel_rfl)) ?_
      refine gp_step (p := true) (b := (if (if (!y2) = true then true else (decide (y1.type < 1))) = true then true else (decide (3 < y1.type)))) (v' := (.ptr 4 0)) (by kernel_rfl) rfl rfl (fun hc => vop_val1 (by kernel_rfl) (by kernel_rfl)) ?_
      refine gp_step (p := true) (b := (if (if (!y2) = true then true else (decide (y1.type < 1))) = true then true else (decide (3 < y1.type)))) (v' := (.d (.s (bs y1.name)))) (by kernel_rfl) rfl rfl (fun hc => vop_val1 (Eq.trans (b := ([(true && ((if (if (!y2) = true then true else (decide (y1.type < 1))) = true then true else (decide (3 < y1.type))) == false))] : List Bool).all id) (by kernel_rfl) (all_c hc rfl)) (by kernel_rfl)) ?_
      refine gcall_step (p := true) (b := (if (if (!y2) = true then true else (decide (y1.type < 1))) = true then true else (decide (3 < y1.type)))) (m := iColAt p0 y1.name) (dflt := default) (args := [(vGTable p0), (.d (.s (bs y1.name)))]) (v' := (fun y => (.d (.i .i64 y)))) h (by kernel_rfl) (OK_iColAt p0 y1.name) (fun hc => by kernel_rfl) (by kernel_rfl) (fun _ => rfl) (fun hc => (Eq.trans (b := ([(true && ((if (if (!y2) = true then true else (decide (y1.type < 1))) = true then true else (decide (3 < y1.type))) == false)), (true && ((if (if (!y2) = true then true else (decide (y1.type < 1))) = true then true else (decide (3 < y1.type))) == false))] : List Bool).all id) (by kernel_rfl) (all_c hc (all_c hc rfl)))) ?_
      clear h; intro y3 h
      refine gp_step (p := true) (b := (if (if (!y2) = true then true else (decide (y1.type < 1))) = true then true else (decide (3 < y1.type)))) (v' := (.d (.i .i64 x8))) (by kernel_rfl) rfl rfl (fun hc => vop_val1 (by kernel_rfl) (by kernel_rfl)) ?_
      refine gp_step (p := true) (b := (if (if (!y2) = true then true else (decide (y1.type < 1))) = true then true else (decide (3 < y1.type)))) (v' := (.d (.b (!decide (y3 = x8))))) (by kernel_rfl) rfl rfl (fun hc => vop_val1 (Eq.trans (b := ([(true && ((if (if (!y2) = true then true else (decide (y1.type < 1))) = true then true else (decide (3 < y1.type))) == false)), (true && ((if (if (!y2) = true then true else (decide (y1.type < 1))) = true then true else (decide (3 < y1.type))) == false))] : List Bool).all id) (by kernel_rfl) (all_c hc (all_c hc rfl))) (by kernel_rfl)) ?_
      refine p_step (v' := (.d (.b (if (if (if (!y2) = true then true else (decide (y1.type < 1))) = true then true else (decide (3 < y1.type))) = true then true else (!decide (y3 = x8)))))) rfl rfl (vop_pick (b := (if (if (!y2) = true then true else (decide (y1.type < 1))) = true then true else (decide (3 < y1.type)))) (p := true) (u := true) (q := (true && ((if (if (!y2) = true then true else (decide (y1.type < 1))) = true then true else (decide (3 < y1.type))) == false))) (v := (!decide (y3 = x8))) (by kernel_rfl) (by kernel_rfl) (by kernel_rfl) (by kernel_rfl) (fun _ => rfl) (fun hb => gc_f rfl hb)) ?_
      refine nil_in ?_
      refine next_in ?_
      refine cond_step h (by kernel_rfl) ?_ ?_
      · clear h; intro h
        refine seq_in ?_
        refine ops_in ?_
        refine sts_ok 1 (s' := ⟨(2, (.d (.b false))) :: (34, (.d (.b (if (if (if (!y2) = true then true else (decide (y1.type < 1))) = true then true else (decide (3 < y1.type))) = true then true else (!decide (y3 = x8)))))) :: (33, (.ite (true && ((if (if (!y2) = true then true else (decide (y1.type < 1))) = true then true else (decide (3 < y1.type))) == false)) (.d (.b (!decide (y3 = x8)))))) :: (32, (.ite (true && ((if (if (!y2) = true then true else (decide (y1.type < 1))) = true then true else (decide (3 < y1.type))) == false)) (.d (.i .i64 x8)))) :: (31, (.ite (true && ((if (if (!y2) = true then true else (decide (y1.type < 1))) = true then true else (decide (3 < y1.type))) == false)) (.d (.i .i64 y3)))) :: (30, (.ite (true && ((if (if (!y2) = true then true else (decide (y1.type < 1))) = true then true else (decide (3 < y1.type))) == false)) (.d (.s (bs y1.name))))) :: (29, (.ite (true && ((if (if (!y2) = true then true else (decide (y1.type < 1))) = true then true else (decide (3 < y1.type))) == false)) (.ptr 4 0))) :: (28, (.ite (true && ((if (if (!y2) = true then true else (decide (y1.type < 1))) = true then true else (decide (3 < y1.type))) == false)) (vGTable p0))) :: (27, (.d (.b (if (if (!y2) = true then true else (decide (y1.type < 1))) = true then true else (decide (3 < y1.type)))))) :: (26, (.d (.b (if (if (!y2) = true then true else (decide (y1.type < 1))) = true then true else (decide (3 < y1.type)))))) :: (25, (.ite (true && ((if (!y2) = true then true else (decide (y1.type < 1))) == false)) (.d (.b (decide (3 < y1.type)))))) :: (24, (.ite (true && ((if (!y2) = true then true else (decide (y1.type < 1))) == false)) (.d (.i .i64 y1.type)))) :: (23, (.ite (true && ((if (!y2) = true then true else (decide (y1.type < 1))) == false)) (.ptr 4 1))) :: (22, (.d (.b (if (!y2) = true then true else (decide (y1.type < 1)))))) :: (21, (.d (.b (if (!y2) = true then true else (decide (y1.type < 1)))))) :: (20, (.ite (true && ((!y2) == false)) (.d (.b (decide (y1.type < 1)))))) :: (19, (.ite (true && ((!y2) == false)) (.d (.i .i64 y1.type)))) :: (18, (.ite (true && ((!y2) == false)) (.ptr 4 1))) :: (17, (.d (.b (!y2)))) :: (16, (.d (.b (!y2)))) :: (15, (.d (.b y2))) :: (14, (.d (.s (bs y1.name)))) :: (13, (.ptr 4 0)) :: (3, (.d (.i .i64 x8))) :: (4, (.ptr 4 0)) :: (12, (vGCol y1)) :: (11, (.rp [(.s (bs y1.name)), (.i .i64 y1.type)])) :: (10, (.d (.i .i64 x8))) :: (9, (.d (.b (decide (x8 < (p0.cols.length : Int)))))) :: (stiIsTable_L0 p0 x8).env, [(4, [(.d (.s (bs y1.name))), (.d (.i .i64 y1.type))]), (1, [(.d (.s (bs p0.name))), (.d (.sl 2 (p0.cols.map cGCol)))])]⟩) (by kernel_rfl) ?_
        refine nil_in ?_
        refine next_in ?_
        refine ret_in ?_
        refine blockK_ret ?_
        refine thenK_ret ?_
        refine thenK_ret ?_
        refine blockK_ret ?_
        refine thenK_ret ?_
        have h := Option.some.inj h; subst h
        exact ret1_step (v := (.d (.b false))) (by kernel_rfl) (by kernel_rfl) (by kernel_rfl)
      · clear h; intro h
        refine skip_in ?_
        refine blockK_norm ?_
        refine next_in ?_
        refine ops_in ?_
        refine sts_ok 2 (s' := ⟨(8, (.d (.i .i64 (IntKind.wrap .i64 (x8 + 1))))) :: (35, (.d (.i .i64 (IntKind.wrap .i64 (x8 + 1))))) :: (34, (.d (.b (if (if (if (!y2) = true then true else (decide (y1.type < 1))) = true then true else (decide (3 < y1.type))) = true then true else (!decide (y3 = x8)))))) :: (33, (.ite (true && ((if (if (!y2) = true then true else (decide (y1.type < 1))) = true then true else (decide (3 < y1.type))) == false)) (.d (.b (!decide (y3 = x8)))))) :: (32, (.ite (true && ((if (if (!y2) = true then true else (decide (y1.type < 1))) = true then true else (decide (3 < y1.type))) == false)) (.d (.i .i64 x8)))) :: (31, (.ite (true && ((if (if (!y2) = true then true else (decide (y1.type < 1))) = true then true else (decide (3 < y1.type))) == false)) (.d (.i .i64 y3)))) :: (30, (.ite (true && ((if (if (!y2) = true then true else (decide (y1.type < 1))) = true then true else (decide (3 < y1.type))) == false)) (.d (.s (bs y1.name))))) :: (29, (.ite (true && ((if (if (!y2) = true then true else (decide (y1.type < 1))) = true then true else (decide (3 < y1.type))) == false)) (.ptr 4 0))) :: (28, (.ite (true && ((if (if (!y2) = true then true else (decide (y1.type < 1))) = true then true else (decide (3 < y1.type))) == false)) (vGTable p0))) :: (27, (.d (.b (if (if (!y2) = true then true else (decide (y1.type < 1))) = true then true else (decide (3 < y1.type)))))) :: (26, (.d (.b (if (if (!y2) = true then true else (decide (y1.type < 1))) = true then true else (decide (3 < y1.type)))))) :: (25, (.ite (true && ((if (!y2) = true then true else (decide (y1.type < 1))) == false)) (.d (.b (decide (3 < y1.type)))))) :: (24, (.ite (true && ((if (!y2) = true then true else (decide (y1.type < 1))) == false)) (.d (.i .i64 y1.type)))) :: (23, (.ite (true && ((if (!y2) = true then true else (decide (y1.type < 1))) == false)) (.ptr 4 1))) :: (22, (.d (.b (if (!y2) = true then true else (decide (y1.type < 1)))))) :: (21, (.d (.b (if (!y2) = true then true else (decide (y1.type < 1)))))) :: (20, (.ite (true && ((!y2) == false)) (.d (.b (decide (y1.type < 1)))))) :: (19, (.ite (true && ((!y2) == false)) (.d (.i .i64 y1.type)))) :: (18, (.ite (true && ((!y2) == false)) (.ptr 4 1))) :: (17, (.d (.b (!y2)))) :: (16, (.d (.b (!y2)))) :: (15, (.d (.b y2))) :: (14, (.d (.s (bs y1.name)))) :: (13, (.ptr 4 0)) :: (3, (.d (.i .i64 x8))) :: (4, (.ptr 4 0)) :: (12, (vGCol y1)) :: (11, (.rp [(.s (bs y1.name)), (.i .i64 y1.type)])) :: (10, (.d (.i .i64 x8))) :: (9, (.d (.b (decide (x8 < (p0.cols.length : Int)))))) :: (stiIsTable_L0 p0 x8).env, [(4, [(.d (.s (bs y1.name))), (.d (.i .i64 y1.type))]), (1, [(.d (.s (bs p0.name))), (.d (.sl 2 (p0.cols.map cGCol)))])]⟩) (by kernel_rfl) ?_
        refine nil_in ?_
        exact loop_back (s' := stiIsTable_L0 p0 (IntKind.wrap .i64 (x8 + 1))) (wk_ren [] (by kernel_rfl) (er_cons (vr_same (by kernel_rfl) (by kernel_rfl)) (er_cons (vr_same (by kernel_rfl) (by kernel_rfl)) (er_cons (vr_same (by kernel_rfl) (by kernel_rfl)) (er_cons (vr_same (by kernel_rfl) (by kernel_rfl)) (er_nil))))) (br_same (by kernel_rfl) (by kernel_rfl) (br_nil))) (OK_iIsTable_L0 (IntKind.wrap .i64 (x8 + 1)) _ h)
    · clear h; intro h
      refine exit_in ?_
      refine thenK_exit ?_
      refine thenK_exit ?_
      refine blockK_here ?_
      refine next_in ?_
      refine seq_in ?_
      refine ops_in ?_
      refine sts_ok 2 (s' := ⟨(37, (.d (.s (bs p0.name)))) :: (36, (.ptr 1 0)) :: (9, (.d (.b (decide (x8 < (p0.cols.length : Int)))))) :: (stiIsTable_L0 p0 x8).env, (stiIsTable_L0 p0 x8).bx⟩) (by kernel_rfl) ?_
      refine call_step (m := iNameOk p0.name) (args := [(.d (.s (bs p0.name)))]) (v' := (fun y => (.d (.b y)))) h (OK_iNameOk p0.name) (by kernel_rfl) (by kernel_rfl) (fun _ => rfl) ?_
      clear h; intro y4 h
      refine sts_ok 1 (s' := ⟨(39, (.d (.b y4))) :: (38, (.d (.b y4))) :: (37, (.d (.s (bs p0.name)))) :: (36, (.ptr 1 0)) :: (9, (.d (.b (decide (x8 < (p0.cols.length : Int)))))) :: (stiIsTable_L0 p0 x8).env, (stiIsTable_L0 p0 x8).bx⟩) (by kernel_rfl) ?_
      refine gp_step (p := true) (b := y4) (v' := (.ptr 1 1)) (by kernel_rfl) rfl rfl (fun hc => vop_val1 (by kernel_rfl) (by kernel_rfl)) ?_
      refine gp_step (p := true) (b := y4) (v' := (.d (.sl 2 (p0.cols.map cGCol)))) (by kernel_rfl) rfl rfl (fun hc => vop_val1 (Eq.trans (b := ([(true && (y4 == true))] : List Bool).all id) (by kernel_rfl) (all_c hc rfl)) (by kernel_rfl)) ?_
      refine gp_step (p := true) (b := y4) (v' := (.d (.i .i64 (p0.cols.length : Int)))) (by kernel_rfl) rfl rfl (fun hc => vop_len (sz := 2) (l := p0.cols) (f := cGCol) (Eq.trans (b := ([(true && (y4 == true))] : List Bool).all id) (by kernel_rfl) (all_c hc rfl)) (by kernel_rfl)) ?_
      refine gp_step (p := true) (b := y4) (v' := (.d (.b (decide (1 ≤ (p0.cols.length : Int)))))) (by kernel_rfl) rfl rfl (fun hc => vop_val1 (Eq.trans (b := ([(true && (y4 == true))] : List Bool).all id) (by kernel_rfl) (all_c hc rfl)) (by kernel_rfl)) ?_
      refine p_step (v' := (.d (.b (if y4 = true then (decide (1 ≤ (p0.cols.length : Int))) else false)))) rfl rfl (vop_pick (b := y4) (p := (true && (y4 == true))) (u := (decide (1 ≤ (p0.cols.length : Int)))) (q := true) (v := false) (by kernel_rfl) (by kernel_rfl) (by kernel_rfl) (by kernel_rfl) (fun hb => gc_t rfl hb) (fun _ => rfl)) ?_
      refine sts_ok 1 (s' := ⟨(45, (.d (.b (if y4 = true then (decide (1 ≤ (p0.cols.length : Int))) else false)))) :: (44, (.d (.b (if y4 = true then (decide (1 ≤ (p0.cols.length : Int))) else false)))) :: (43, (.ite (true && (y4 == true)) (.d (.b (decide (1 ≤ (p0.cols.length : Int))))))) :: (42, (.ite (true && (y4 == true)) (.d (.i .i64 (p0.cols.length : Int))))) :: (41, (.ite (true && (y4 == true)) (.d (.sl 2 (p0.cols.map cGCol))))) :: (40, (.ite (true && (y4 == true)) (.ptr 1 1))) :: (39, (.d (.b y4))) :: (38, (.d (.b y4))) :: (37, (.d (.s (bs p0.name)))) :: (36, (.ptr 1 0)) :: (9, (.d (.b (decide (x8 < (p0.cols.length : Int)))))) :: (stiIsTable_L0 p0 x8).env, (stiIsTable_L0 p0 x8).bx⟩) (by kernel_rfl) ?_
      refine gp_step (p := true) (b := (if y4 = true then (decide (1 ≤ (p0.cols.length : Int))) else false)) (v' := (.ptr 1 1)) (by kernel_rfl) rfl rfl (fun hc => vop_val1 (by kernel_rfl) (by kernel_rfl)) ?_
      refine gp_step (p := true) (b := (if y4 = true then (decide (1 ≤ (p0.cols.length : Int))) else false)) (v' := (.d (.sl 2 (p0.cols.map cGCol)))) (by kernel_rfl) rfl rfl (fun hc => vop_val1 (Eq.trans (b := ([(true && ((if y4 = true then (decide (1 ≤ (p0.cols.length : Int))) else false) == true))] : List Bool).all id) (by kernel_rfl) (all_c hc rfl)) (by kernel_rfl)) ?_
      refine gp_step (p := true) (b := (if y4 = true then (decide (1 ≤ (p0.cols.length : Int))) else false)) (v' := (.d (.i .i64 (p0.cols.length : Int)))) (by kernel_rfl) rfl rfl (fun hc => vop_len (sz := 2) (l := p0.cols) (f := cGCol) (Eq.trans (b := ([(true && ((if y4 = true then (decide (1 ≤ (p0.cols.length : Int))) else false) == true))] : List Bool).all id) (by kernel_rfl) (all_c hc rfl)) (by kernel_rfl)) ?_
      refine gp_step (p := true) (b := (if y4 = true then (decide (1 ≤ (p0.cols.length : Int))) else false)) (v' := (.d (.b (decide ((p0.cols.length : Int) ≤ 4))))) (by kernel_rfl) rfl rfl (fun hc => vop_val1 (Eq.trans (b := ([(true && ((if y4 = true then (decide (1 ≤ (p0.cols.length : Int))) else false) == true))] : List Bool).all id) (by kernel_rfl) (all_c hc rfl)) (by kernel_rfl)) ?_
      refine p_step (v' := (.d (.b (if (if y4 = true then (decide (1 ≤ (p0.cols.length : Int))) else false) = true then (decide ((p0.cols.length : Int) ≤ 4)) else false)))) rfl rfl (vop_pick (b := (if y4 = true then (decide (1 ≤ (p0.cols.length : Int))) else false)) (p := (true && ((if y4 = true then (decide (1 ≤ (p0.cols.length : Int))) else false) == true))) (u := (decide ((p0.cols.length : Int) ≤ 4))) (q := true) (v := false) (by kernel_rfl) (by kernel_rfl) (by kernel_rfl) (by kernel_rfl) (fun hb => gc_t rfl hb) (fun _ => rfl)) ?_
      refine sts_ok 1 (s' := ⟨(2, (.d (.b (if (if y4 = true then (decide (1 ≤ (p0.cols.length : Int))) else false) = true then (decide ((p0.cols.length : Int) ≤ 4)) else false)))) :: (50, (.d (.b (if (if y4 = true then (decide (1 ≤ (p0.cols.length : Int))) else false) = true then (decide ((p0.cols.length : Int) ≤ 4)) else false)))) :: (49, (.ite (true && ((if y4 = true then (decide (1 ≤ (p0.cols.length : Int))) else false) == true)) (.d (.b (decide ((p0.cols.length : Int) ≤ 4)))))) :: (48, (.ite (true && ((if y4 = true then (decide (1 ≤ (p0.cols.length : Int))) else false) == true)) (.d (.i .i64 (p0.cols.length : Int))))) :: (47, (.ite (true && ((if y4 = true then (decide (1 ≤ (p0.cols.length : Int))) else false) == true)) (.d (.sl 2 (p0.cols.map cGCol))))) :: (46, (.ite (true && ((if y4 = true then (decide (1 ≤ (p0.cols.length : Int))) else false) == true)) (.ptr 1 1))) :: (45, (.d (.b (if y4 = true then (decide (1 ≤ (p0.cols.length : Int))) else false)))) :: (44, (.d (.b (if y4 = true then (decide (1 ≤ (p0.cols.length : Int))) else false)))) :: (43, (.ite (true && (y4 == true)) (.d (.b (decide (1 ≤ (p0.cols.length : Int))))))) :: (42, (.ite (true && (y4 == true)) (.d (.i .i64 (p0.cols.length : Int))))) :: (41, (.ite (true && (y4 == true)) (.d (.sl 2 (p0.cols.map cGCol))))) :: (40, (.ite (true && (y4 == true)) (.ptr 1 1))) :: (39, (.d (.b y4))) :: (38, (.d (.b y4))) :: (37, (.d (.s (bs p0.name)))) :: (36, (.ptr 1 0)) :: (9, (.d (.b (decide (x8 < (p0.cols.length : Int)))))) :: (stiIsTable_L0 p0 x8).env, (stiIsTable_L0 p0 x8).bx⟩) (by kernel_rfl) ?_
      refine nil_in ?_
      refine next_in ?_
      refine ret_in ?_
      have h := Option.some.inj h; subst h
      exact ret1_step (v := (.d (.b (if (if y4 = true then (decide (1 ≤ (p0.cols.length : Int))) else false) = true then (decide ((p0.cols.length : Int) ≤ 4)) else false)))) (by kernel_rfl) (by kernel_rfl) (by kernel_rfl)
theorem OK_iIsTable_L0 (p0 : GTable) (x8 : Int) (r : Bool) (h : iIsTable_L0 p0 x8 = some r) : avc Try.prog aciIsTable_L0 (qiIsTable_1 r) (stiIsTable_L0 p0 x8) := (OKs_iIsTable_L0 p0) x8 r h
theorem OK_iIsTable (p0 : GTable) : FOk Try.prog 161 [(vGTable p0)] (fun y => (.d (.b y))) (iIsTable p0) := by
  intro r h
  rw [iIsTable] at h
  refine acalls_of_fn triIsTable (Nat.le_of_ble_eq_true rfl) (by simp) ?_
  show avc Try.prog aciIsTable (qiIsTable _) ⟨[(0, (vGTable p0))], []⟩
  delta aciIsTable
  refine seq_in ?_
  refine ops_in ?_
  refine sts_ok 2 (s' := ⟨[(2, (.d (.b false))), (1, (.ptr 1 0)), (0, (vGTable p0))], [(1, [(.d (.s (bs p0.name))), (.d (.sl 2 (p0.cols.map cGCol)))])]⟩) (by kernel_rfl) ?_
  refine nil_in ?_
  refine next_in ?_
  refine seq_in ?_
  refine seq_in ?_
  refine ops_in ?_
  refine sts_ok 2 (s' := ⟨[(6, (.d (.sl 2 (p0.cols.map cGCol)))), (5, (.ptr 1 1)), (2, (.d (.b false))), (1, (.ptr 1 0)), (0, (vGTable p0))], [(1, [(.d (.s (bs p0.name))), (.d (.sl 2 (p0.cols.map cGCol)))])]⟩) (by kernel_rfl) ?_
  refine p_step (v' := (.d (.i .i64 (p0.cols.length : Int)))) rfl rfl (vop_len (sz := 2) (l := p0.cols) (f := cGCol) (by kernel_rfl) (by kernel_rfl)) ?_
  refine sts_ok 1 (s' := ⟨[(8, (.d (.i .i64 0))), (7, (.d (.i .i64 (p0.cols.length : Int)))), (6, (.d (.sl 2 (p0.cols.map cGCol)))), (5, (.ptr 1 1)), (2, (.d (.b false))), (1, (.ptr 1 0)), (0, (vGTable p0))], [(1, [(.d (.s (bs p0.name))), (.d (.sl 2 (p0.cols.map cGCol)))])]⟩) (by kernel_rfl) ?_
  refine nil_in ?_
  refine next_in ?_
  refine block_in ?_
  exact loop_go (s' := stiIsTable_L0 p0 0) (wk_ren [] (by kernel_rfl) (er_cons (vr_same (by kernel_rfl) (by kernel_rfl)) (er_cons (vr_same (by kernel_rfl) (by kernel_rfl)) (er_cons (vr_same (by kernel_rfl) (by kernel_rfl)) (er_cons (vr_same (by kernel_rfl) (by kernel_rfl)) (er_nil))))) (br_same (by kernel_rfl) (by kernel_rfl) (br_nil))) (OK_iIsTable_L0 p0 0 _ h)
theorem OK_iTableAt_1_x0 (p0 : GTable) (c0_0 : (List UInt8)) : FOkB Try.prog 202 [(vGTable p0), (.ptr 1000000 0)] [(1000000, [(.d (.s (bs c0_0)))])] (fun (y : Bool) => (.d (.b y))) (fun (y : Bool) => [(1000000, [(.d (.s (bs c0_0)))])]) (iTableAt_1_x0 p0 c0_0) := by
  intro r h
  rw [iTableAt_1_x0] at h
  refine acalls_of_fn triTableAt_1_x0 (Nat.le_of_ble_eq_true rfl) (by intro n hn; simp at hn; omega) ?_
  show avc Try.prog aciTableAt_1_x0 (qiTableAt_1_x0 c0_0 _) ⟨[(0, (vGTable p0)), (1, (.ptr 1000000 0))], [(1000000, [(.d (.s (bs c0_0)))])]⟩
  delta aciTableAt_1_x0
  refine seq_in ?_
  refine ops_in ?_
  refine sts_ok 2 (s' := ⟨[(3, (.d (.b false))), (2, (.ptr 2 0)), (0, (vGTable p0)), (1, (.ptr 1000000 0))], [(2, [(.d (.s (bs p0.name))), (.d (.sl 2 (p0.cols.map cGCol)))]), (1000000, [(.d (.s (bs c0_0)))])]⟩) (by kernel_rfl) ?_
  refine nil_in ?_
  refine next_in ?_
  refine seq_in ?_
  refine ops_in ?_
  refine sts_ok 5 (s' := ⟨[(3, (.d (.b (decide (p0.name = c0_0))))), (7, (.d (.b (decide (p0.name = c0_0))))), (6, (.d (.s (bs c0_0)))), (5, (.d (.s (bs p0.name)))), (4, (.ptr 2 0)), (3, (.d (.b false))), (2, (.ptr 2 0)), (0, (vGTable p0)), (1, (.ptr 1000000 0))], [(2, [(.d (.s (bs p0.name))), (.d (.sl 2 (p0.cols.map cGCol)))]), (1000000, [(.d (.s (bs c0_0)))])]⟩) (by kernel_rfl) ?_
  refine nil_in ?_
  refine next_in ?_
  refine ret_in ?_
  have h := Option.some.inj h; subst h
  exact ret1_step (v := (.d (.b (decide (p0.name = c0_0))))) (by kernel_rfl) (by kernel_rfl) ⟨by kernel_rfl, by kernel_rfl, trivial⟩
theorem OKs_gSlices_IndexFunc_impl_Table_impl_Table_x0_L0 (p0 : (List GTable)) (c0_0 : (List UInt8)) : (∀ (x8 : Int) (r : Int), gSlices_IndexFunc_impl_Table_impl_Table_x0_L0 p0 c0_0 x8 = some r → avc Try.prog acgSlices_IndexFunc_impl_Table_impl_Table_x0_L0 (qgSlices_IndexFunc_impl_Table_impl_Table_x0_1 c0_0 r) (stgSlices_IndexFunc_impl_Table_impl_Table_x0_L0 p0 c0_0 x8)) := by
  refine gSlices_IndexFunc_impl_Table_impl_Table_x0_L0.partial_correctness p0 c0_0 (fun x8 r => avc Try.prog acgSlices_IndexFunc_impl_Table_impl_Table_x0_L0 (qgSlices_IndexFunc_impl_Table_impl_Table_x0_1 c0_0 r) (stgSlices_IndexFunc_impl_Table_impl_Table_x0_L0 p0 c0_0 x8)) ?_
  · intro F_gSlices_IndexFunc_impl_Table_impl_Table_x0_L0 OK_gSlices_IndexFunc_impl_Table_impl_Table_x0_L0 x8 r h
    delta acgSlices_IndexFunc_impl_Table_impl_Table_x0_L0
    refine loop_unroll ?_
    refine seq_in ?_
    refine ops_in ?_
    refine sts_ok 1 (s' := ⟨(9, (.d (.b (decide (x8 < (p0.length : Int)))))) :: (stgSlices_IndexFunc_impl_Table_impl_Table_x0_L0 p0 c0_0 x8).env, (stgSlices_IndexFunc_impl_Table_impl_Table_x0_L0 p0 c0_0 x8).bx⟩) (by kernel_rfl) ?_
    refine nil_in ?_
    refine next_in ?_
    refine seq_in ?_
    refine cond_step h (by kernel_rfl) ?_ ?_
    · clear h; intro h
      refine skip_in ?_
      refine next_in ?_
      refine seq_in ?_
      refine block_in ?_
      refine seq_in ?_
      refine ops_in ?_
      refine sts_ok 2 (s' := ⟨(5, (.d (.i .i64 x8))) :: (10, (.d (.i .i64 x8))) :: (9, (.d (.b (decide (x8 < (p0.length : Int)))))) :: (stgSlices_IndexFunc_impl_Table_impl_Table_x0_L0 p0 c0_0 x8).env, (stgSlices_IndexFunc_impl_Table_impl_Table_x0_L0 p0 c0_0 x8).bx⟩) (by kernel_rfl) ?_
      refine nil_in ?_
      refine next_in ?_
      refine seq_in ?_
      refine ops_in ?_
      refine sts_ok 3 (s' := ⟨(13, (.d (.i .i64 x8))) :: (12, (.d (.sl 2 (p0.map cGTable)))) :: (11, (.fn 202 [(.ptr 1000000 0)])) :: (5, (.d (.i .i64 x8))) :: (10, (.d (.i .i64 x8))) :: (9, (.d (.b (decide (x8 < (p0.length : Int)))))) :: (stgSlices_IndexFunc_impl_Table_impl_Table_x0_L0 p0 c0_0 x8).env, (stgSlices_IndexFunc_impl_Table_impl_Table_x0_L0 p0 c0_0 x8).bx⟩) (by kernel_rfl) ?_
      refine v_step (m := idx p0 x8) (v' := fun y => (.rp [(.s (bs y.name)), (.sl 2 (y.cols.map cGCol))])) h rfl rfl (fun y hy => vop_ia (l := p0) (f := cGTable) (g := cGTable) (k := .i64) hy (fun _ => rfl) (by kernel_rfl) (by kernel_rfl) (by kernel_rfl)) ?_
      clear h; intro y1 h
      refine sts_ok 1 (s' := ⟨(15, (vGTable y1)) :: (14, (.rp [(.s (bs y1.name)), (.sl 2 (y1.cols.map cGCol))])) :: (13, (.d (.i .i64 x8))) :: (12, (.d (.sl 2 (p0.map cGTable)))) :: (11, (.fn 202 [(.ptr 1000000 0)])) :: (5, (.d (.i .i64 x8))) :: (10, (.d (.i .i64 x8))) :: (9, (.d (.b (decide (x8 < (p0.length : Int)))))) :: (stgSlices_IndexFunc_impl_Table_impl_Table_x0_L0 p0 c0_0 x8).env, (stgSlices_IndexFunc_impl_Table_impl_Table_x0_L0 p0 c0_0 x8).bx⟩) (by kernel_rfl) ?_
      refine callvg_step ⟨[(1000000, 1000000)], [], [], [], [], [], [], []⟩ (m := iTableAt_1_x0 y1 c0_0) (caps := [(.ptr 1000000 0)]) (S' := fun (y : Bool) => ⟨(16, (.d (.b y))) :: (15, (vGTable y1)) :: (14, (.rp [(.s (bs y1.name)), (.sl 2 (y1.cols.map cGCol))])) :: (13, (.d (.i .i64 x8))) :: (12, (.d (.sl 2 (p0.map cGTable)))) :: (11, (.fn 202 [(.ptr 1000000 0)])) :: (5, (.d (.i .i64 x8))) :: (10, (.d (.i .i64 x8))) :: (9, (.d (.b (decide (x8 < (p0.length : Int)))))) :: (stgSlices_IndexFunc_impl_Table_impl_Table_x0_L0 p0 c0_0 x8).env, [(1000000, [(.d (.s (bs c0_0)))])]⟩) h (OK_iTableAt_1_x0 y1 c0_0) (by kernel_rfl) (by kernel_rfl) (by kernel_rfl) (by kernel_rfl) (by kernel_rfl) (by kernel_rfl) (fun y => by kernel_rfl) (fun y => by kernel_rfl) ?_
      clear h; intro y2 h
      refine nil_in ?_
      refine next_in ?_
      refine cond_step h (by kernel_rfl) ?_ ?_
      · clear h; intro h
        refine seq_in ?_
        refine ops_in ?_
        refine sts_ok 2 (s' := ⟨(4, (.d (.i .i64 x8))) :: (17, (.d (.i .i64 x8))) :: (16, (.d (.b y2))) :: (15, (vGTable y1)) :: (14, (.rp [(.s (bs y1.name)), (.sl 2 (y1.cols.map cGCol))])) :: (13, (.d (.i .i64 x8))) :: (12, (.d (.sl 2 (p0.map cGTable)))) :: (11, (.fn 202 [(.ptr 1000000 0)])) :: (5, (.d (.i .i64 x8))) :: (10, (.d (.i .i64 x8))) :: (9, (.d (.b (decide (x8 < (p0.length : Int)))))) :: (stgSlices_IndexFunc_impl_Table_impl_Table_x0_L0 p0 c0_0 x8).env, [(1000000, [(.d (.s (bs c0_0)))])]⟩) (by kernel_rfl) ?_
        refine nil_in ?_
        refine next_in ?_
        refine ret_in ?_
        refine blockK_ret ?_
        refine thenK_ret ?_
        refine thenK_ret ?_
        refine blockK_ret ?_
        refine thenK_ret ?_
        have h := Option.some.inj h; subst h
        exact ret1_step (v := (.d (.i .i64 x8))) (by kernel_rfl) (by kernel_rfl) ⟨by kernel_rfl, by kernel_rfl, trivial⟩
      · clear h; intro h
        refine skip_in ?_
        refine blockK_norm ?_
        refine next_in ?_
        refine ops_in ?_
        refine sts_ok 2 (s' := ⟨(8, (.d (.i .i64 (IntKind.wrap .i64 (x8 + 1))))) :: (18, (.d (.i .i64 (IntKind.wrap .i64 (x8 + 1))))) :: (16, (.d (.b y2))) :: (15, (vGTable y1)) :: (14, (.rp [(.s (bs y1.name)), (.sl 2 (y1.cols.map cGCol))])) :: (13, (.d (.i .i64 x8))) :: (12, (.d (.sl 2 (p0.map cGTable)))) :: (11, (.fn 202 [(.ptr 1000000 0)])) :: (5, (.d (.i .i64 x8))) :: (10, (.d (.i .i64 x8))) :: (9, (.d (.b (decide (x8 < (p0.length : Int)))))) :: (stgSlices_IndexFunc_impl_Table_impl_Table_x0_L0 p0 c0_0 x8).env, [(1000000, [(.d (.s (bs c0_0)))])]⟩) (by kernel_rfl) ?_
        refine nil_in ?_
        exact loop_back (s' := stgSlices_IndexFunc_impl_Table_impl_Table_x0_L0 p0 c0_0 (IntKind.wrap .i64 (x8 + 1))) (wk_ren [] (by kernel_rfl) (er_cons (vr_same (by kernel_rfl) (by kernel_rfl)) (er_cons (vr_same (by kernel_rfl) (by kernel_rfl)) (er_cons (vr_same (by kernel_rfl) (by kernel_rfl)) (er_cons (vr_same (by kernel_rfl) (by kernel_rfl)) (er_nil))))) (br_same (by kernel_rfl) (by kernel_rfl) (br_nil))) (OK_gSlices_IndexFunc_impl_Table_impl_Table_x0_L0 (IntKind.wrap .i64 (x8 + 1)) _ h)
    · clear h; intro h
      refine exit_in ?_
      refine thenK_exit ?_
      refine thenK_exit ?_
      refine blockK_here ?_
      refine next_in ?_
      refine seq_in ?_
      refine ops_in ?_
      refine sts_ok 1 (s' := ⟨(4, (.d (.i .i64 (-1)))) :: (9, (.d (.b (decide (x8 < (p0.length : Int)))))) :: (stgSlices_IndexFunc_impl_Table_impl_Table_x0_L0 p0 c0_0 x8).env, (stgSlices_IndexFunc_impl_Table_impl_Table_x0_L0 p0 c0_0 x8).bx⟩) (by kernel_rfl) ?_
      refine nil_in ?_
      refine next_in ?_
      refine ret_in ?_
      have h := Option.some.inj h; subst h
      exact ret1_step (v := (.d (.i .i64 (-1)))) (by kernel_rfl) (by kernel_rfl) ⟨by kernel_rfl, by kernel_rfl, trivial⟩
theorem OK_gSlices_IndexFunc_impl_Table_impl_Table_x0_L0 (p0 : (List GTable)) (c0_0 : (List UInt8)) (x8 : Int) (r : Int) (h : gSlices_IndexFunc_impl_Table_impl_Table_x0_L0 p0 c0_0 x8 = some r) : avc Try.prog acgSlices_IndexFunc_impl_Table_impl_Table_x0_L0 (qgSlices_IndexFunc_impl_Table_impl_Table_x0_1 c0_0 r) (stgSlices_IndexFunc_impl_Table_impl_Table_x0_L0 p0 c0_0 x8) := (OKs_gSlices_IndexFunc_impl_Table_impl_Table_x0_L0 p0 c0_0) x8 r h
theorem OK_gSlices_IndexFunc_impl_Table_impl_Table_x0 (p0 : (List GTable)) (c0_0 : (List UInt8)) : FOkB Try.prog 201 [(.d (.sl 2 (p0.map cGTable))), (.fn 202 [(.ptr 1000000 0)])] [(1000000, [(.d (.s (bs c0_0)))])] (fun (y : Int) => (.d (.i .i64 y))) (fun (y : Int) => [(1000000, [(.d (.s (bs c0_0)))])]) (gSlices_IndexFunc_impl_Table_impl_Table_x0 p0 c0_0) := by
  intro r h
  rw [gSlices_IndexFunc_impl_Table_impl_Table_x0] at h
  refine acalls_of_fn trgSlices_IndexFunc_impl_Table_impl_Table_x0 (Nat.le_of_ble_eq_true rfl) (by intro n hn; simp at hn; omega) ?_
  show avc Try.prog acgSlices_IndexFunc_impl_Table_impl_Table_x0 (qgSlices_IndexFunc_impl_Table_impl_Table_x0 c0_0 _) ⟨[(0, (.d (.sl 2 (p0.map cGTable)))), (1, (.fn 202 [(.ptr 1000000 0)]))], [(1000000, [(.d (.s (bs c0_0)))])]⟩
  delta acgSlices_IndexFunc_impl_Table_impl_Table_x0
  refine seq_in ?_
  refine ops_in ?_
  refine sts_ok 1 (s' := ⟨[(4, (.d (.i .i64 0))), (0, (.d (.sl 2 (p0.map cGTable)))), (1, (.fn 202 [(.ptr 1000000 0)]))], [(1000000, [(.d (.s (bs c0_0)))])]⟩) (by kernel_rfl) ?_
  refine nil_in ?_
  refine next_in ?_
  refine seq_in ?_
  refine seq_in ?_
  refine ops_in ?_
  refine sts_ok 1 (s' := ⟨[(6, (.d (.sl 2 (p0.map cGTable)))), (4, (.d (.i .i64 0))), (0, (.d (.sl 2 (p0.map cGTable)))), (1, (.fn 202 [(.ptr 1000000 0)]))], [(1000000, [(.d (.s (bs c0_0)))])]⟩) (by kernel_rfl) ?_
  refine p_step (v' := (.d (.i .i64 (p0.length : Int)))) rfl rfl (vop_len (sz := 2) (l := p0) (f := cGTable) (by kernel_rfl) (by kernel_rfl)) ?_
  refine sts_ok 1 (s' := ⟨[(8, (.d (.i .i64 0))), (7, (.d (.i .i64 (p0.length : Int)))), (6, (.d (.sl 2 (p0.map cGTable)))), (4, (.d (.i .i64 0))), (0, (.d (.sl 2 (p0.map cGTable)))), (1, (.fn 202 [(.ptr 1000000 0)]))], [(1000000, [(.d (.s (bs c0_0)))])]⟩) (by kernel_rfl) ?_
  refine nil_in ?_
  refine next_in ?_
  refine block_in ?_
  exact loop_go (s' := stgSlices_IndexFunc_impl_Table_impl_Table_x0_L0 p0 c0_0 0) (wk_ren [] (by kernel_rfl) (er_cons (vr_same (by kernel_rfl) (by kernel_rfl)) (er_cons (vr_same (by kernel_rfl) (by kernel_rfl)) (er_cons (vr_same (by kernel_rfl) (by kernel_rfl)) (er_cons (vr_same (by kernel_rfl) (by kernel_rfl)) (er_nil))))) (br_same (by kernel_rfl) (by kernel_rfl) (br_nil))) (OK_gSlices_IndexFunc_impl_Table_impl_Table_x0_L0 p0 c0_0 0 _ h)
theorem OK_iTableAt (p0 : GCatalog) (p1 : (List UInt8)) : FOk Try.prog 162 [(vGCatalog p0), (.d (.s (bs p1)))] (fun y => (.d (.i .i64 y))) (iTableAt p0 p1) := by
  intro r h
  rw [iTableAt] at h
  refine acalls_of_fn triTableAt (Nat.le_of_ble_eq_true rfl) (by simp) ?_
  show avc Try.prog aciTableAt (qiTableAt _) ⟨[(0, (vGCatalog p0)), (1, (.d (.s (bs p1))))], []⟩
  delta aciTableAt
  refine seq_in ?_
  refine ops_in ?_
  refine sts_ok 3 (s' := ⟨[(4, (.d (.i .i64 0))), (3, (.ptr 3 0)), (2, (.ptr 2 0)), (0, (vGCatalog p0)), (1, (.d (.s (bs p1))))], [(3, [(.d (.s (bs p1)))]), (2, [(.d (.sl 2 (p0.tables.map cGTable)))])]⟩) (by kernel_rfl) ?_
  refine nil_in ?_
  refine next_in ?_
  refine seq_in ?_
  refine ops_in ?_
  refine sts_ok 3 (s' := ⟨[(7, (.fn 202 [(.ptr 3 0)])), (6, (.d (.sl 2 (p0.tables.map cGTable)))), (5, (.ptr 2 0)), (4, (.d (.i .i64 0))), (3, (.ptr 3 0)), (2, (.ptr 2 0)), (0, (vGCatalog p0)), (1, (.d (.s (bs p1))))], [(3, [(.d (.s (bs p1)))]), (2, [(.d (.sl 2 (p0.tables.map cGTable)))])]⟩) (by kernel_rfl) ?_
  refine callg_step ⟨[(1000000, 3)], [], [], [], [], [], [], []⟩ (m := gSlices_IndexFunc_impl_Table_impl_Table_x0 p0.tables p1) (S' := fun (y : Int) => ⟨[(8, (.d (.i .i64 y))), (7, (.fn 202 [(.ptr 3 0)])), (6, (.d (.sl 2 (p0.tables.map cGTable)))), (5, (.ptr 2 0)), (4, (.d (.i .i64 0))), (3, (.ptr 3 0)), (2, (.ptr 2 0)), (0, (vGCatalog p0)), (1, (.d (.s (bs p1))))], [(3, [(.d (.s (bs p1)))]), (2, [(.d (.sl 2 (p0.tables.map cGTable)))])]⟩) h (OK_gSlices_IndexFunc_impl_Table_impl_Table_x0 p0.tables p1) (by kernel_rfl) (by kernel_rfl) (by kernel_rfl) (by kernel_rfl) (fun y => by kernel_rfl) (fun y => by kernel_rfl) ?_
  clear h; intro y1 h
  refine sts_ok 1 (s' := ⟨[(4, (.d (.i .i64 y1))), (8, (.d (.i .i64 y1))), (7, (.fn 202 [(.ptr 3 0)])), (6, (.d (.sl 2 (p0.tables.map cGTable)))), (5, (.ptr 2 0)), (4, (.d (.i .i64 0))), (3, (.ptr 3 0)), (2, (.ptr 2 0)), (0, (vGCatalog p0)), (1, (.d (.s (bs p1))))], [(3, [(.d (.s (bs p1)))]), (2, [(.d (.sl 2 (p0.tables.map cGTable)))])]⟩) (by kernel_rfl) ?_
  refine nil_in ?_
  refine next_in ?_
  refine ret_in ?_
  have h := Option.some.inj h; subst h
  exact ret1_step (v := (.d (.i .i64 y1))) (by kernel_rfl) (by kernel_rfl) (by kernel_rfl)
theorem OKs_iCatalogOk_L0 (p0 : GCatalog) : (∀ (x8 : Int) (r : Bool), iCatalogOk_L0 p0 x8 = some r → avc Try.prog aciCatalogOk_L0 (qiCatalogOk_1 r) (stiCatalogOk_L0 p0 x8)) := by
  refine iCatalogOk_L0.partial_correctness p0 (fun x8 r => avc Try.prog aciCatalogOk_L0 (qiCatalogOk_1 r) (stiCatalogOk_L0 p0 x8)) ?_
  · intro F_iCatalogOk_L0 OK_iCatalogOk_L0 x8 r h
    delta aciCatalogOk_L0
    refine loop_unroll ?_
    refine seq_in ?_
    refine ops_in ?_
    refine sts_ok 1 (s' := ⟨(9, (.d (.b (decide (x8 < (p0.tables.length : Int)))))) :: (stiCatalogOk_L0 p0 x8).env, (stiCatalogOk_L0 p0 x8).bx⟩) (by kernel_rfl) ?_
    refine nil_in ?_
    refine next_in ?_
    refine seq_in ?_
    refine cond_step h (by kernel_rfl) ?_ ?_
    · clear h; intro h
      refine skip_in ?_
      refine next_in ?_
      refine seq_in ?_
      refine block_in ?_
      refine seq_in ?_
      refine ops_in ?_
      refine sts_ok 1 (s' := ⟨(10, (.d (.i .i64 x8))) :: (9, (.d (.b (decide (x8 < (p0.tables.length : Int)))))) :: (stiCatalogOk_L0 p0 x8).env, (stiCatalogOk_L0 p0 x8).bx⟩) (by kernel_rfl) ?_
      refine v_step (m := idx p0.tables x8) (v' := fun y => (.rp [(.s (bs y.name)), (.sl 2 (y.cols.map cGCol))])) h rfl rfl (fun y hy => vop_ia (l := p0.tables) (f := cGTable) (g := cGTable) (k := .i64) hy (fun _ => rfl) (by kernel_rfl) (by kernel_rfl) (by kernel_rfl)) ?_
      clear h; intro y1 h
      refine sts_ok 4 (s' := ⟨(3, (.d (.i .i64 x8))) :: (4, (.ptr 4 0)) :: (12, (vGTable y1)) :: (11, (.rp [(.s (bs y1.name)), (.sl 2 (y1.cols.map cGCol))])) :: (10, (.d (.i .i64 x8))) :: (9, (.d (.b (decide (x8 < (p0.tables.length : Int)))))) :: (stiCatalogOk_L0 p0 x8).env, [(4, [(.d (.s (bs y1.name))), (.d (.sl 2 (y1.cols.map cGCol)))]), (1, [(.d (.sl 2 (p0.tables.map cGTable)))])]⟩) (by kernel_rfl) ?_
      refine nil_in ?_
      refine next_in ?_
      refine seq_in ?_
      refine ops_in ?_
      refine sts_ok 1 (s' := ⟨(13, (vGTable y1)) :: (3, (.d (.i .i64 x8))) :: (4, (.ptr 4 0)) :: (12, (vGTable y1)) :: (11, (.rp [(.s (bs y1.name)), (.sl 2 (y1.cols.map cGCol))])) :: (10, (.d (.i .i64 x8))) :: (9, (.d (.b (decide (x8 < (p0.tables.length : Int)))))) :: (stiCatalogOk_L0 p0 x8).env, [(4, [(.d (.s (bs y1.name))), (.d (.sl 2 (y1.cols.map cGCol)))]), (1, [(.d (.sl 2 (p0.tables.map cGTable)))])]⟩) (by kernel_rfl) ?_
      refine call_step (m := iIsTable y1) (args := [(vGTable y1)]) (v' := (fun y => (.d (.b y)))) h (OK_iIsTable y1) (by kernel_rfl) (by kernel_rfl) (fun _ => rfl) ?_
      clear h; intro y2 h
      refine sts_ok 2 (s' := ⟨(16, (.d (.b (!y2)))) :: (15, (.d (.b (!y2)))) :: (14, (.d (.b y2))) :: (13, (vGTable y1)) :: (3, (.d (.i .i64 x8))) :: (4, (.ptr 4 0)) :: (12, (vGTable y1)) :: (11, (.rp [(.s (bs y1.name)), (.sl 2 (y1.cols.map cGCol))])) :: (10, (.d (.i .i64 x8))) :: (9, (.d (.b (decide (x8 < (p0.tables.length : Int)))))) :: (stiCatalogOk_L0 p0 x8).env, [(4, [(.d (.s (bs y1.name))), (.d (.sl 2 (y1.cols.map cGCol)))]), (1, [(.d (.sl 2 (p0.tables.map cGTable)))])]⟩) (by kernel_rfl) ?_
      refine gp_step (p := true) (b := (!y2)) (v' := (vGCatalog p0)) (by kernel_rfl) rfl rfl (fun hc => vop_val1 (by kernel_rfl) (by kernel_rfl)) ?_
      refine gp_step (p := true) (b := (!y2)) (v' := (.ptr 4 0)) (by kernel_rfl) rfl rfl (fun hc => vop_val1 (by kernel_rfl) (by kernel_rfl)) ?_
      refine gp_step (p := true) (b := (!y2)) (v' := (.d (.s (bs y1.name)))) (by kernel_rfl) rfl rfl (fun hc => vop_val1 (Eq.trans (b := ([(true && ((!y2) == false))] : List Bool).all id) (by kernel_rfl) (all_c hc rfl)) (by kernel_rfl)) ?_
      refine gcall_step (p := true) (b := (!y2)) (m := iTableAt p0 y1.name) (dflt := default) (args := [(vGCatalog p0), (.d (.s (bs y1.name)))]) (v' := (fun y => (.d (.i .i64 y)))) h (by kernel_rfl) (OK_iTableAt p0 y1.name) (fun hc => by kernel_rfl) (by kernel_rfl) (fun _ => rfl) (fun hc => (Eq.trans (b := ([(true && ((!y2) == false)), (true && ((!y2) == false))] : List Bool).all id) (by kernel_rfl) (all_c hc (all_c hc rfl)))) ?_
      clear h; intro y3 h
      refine gp_step (p := true) (b := (!y2)) (v' := (.d (.i .i64 x8))) (by kernel_rfl) rfl rfl (fun hc => vop_val1 (by kernel_rfl) (by kernel_rfl)) ?_
      refine gp_step (p := true) (b := (!y2)) (v' := (.d (.b (!decide (y3 = x8))))) (by kernel_rfl) rfl rfl (fun hc => vop_val1 (Eq.trans (b := ([(true && ((!y2) == false)), (true && ((!y2) == false))] : List Bool).all id) (by kernel_rfl) (all_c hc (all_c hc rfl))) (by kernel_rfl)) ?_
      refine p_step (v' := (.d (.b (if (!y2) = true then true else (!decide (y3 = x8)))))) rfl rfl (vop_pick (b := (!y2)) (p := true) (u := true) (q := (true && ((!y2) == false))) (v := (!decide (y3 = x8))) (by kernel_rfl) (by kernel_rfl) (by kernel_rfl) (by kernel_rfl) (fun _ => rfl) (fun hb => gc_f rfl hb)) ?_
      refine nil_in ?_
      refine next_in ?_
      refine cond_step h (by kernel_rfl) ?_ ?_
      · clear h; intro h
        refine seq_in ?_
        refine ops_in ?_
        refine sts_ok 1 (s' := ⟨(2, (.d (.b false))) :: (23, (.d (.b (if (!y2) = true then true else (!decide (y3 = x8)))))) :: (22, (.ite (true && ((!y2) == false)) (.d (.b (!decide (y3 = x8)))))) :: (21, (.ite (true && ((!y2) == false)) (.d (.i .i64 x8)))) :: (20, (.ite (true && ((!y2) == false)) (.d (.i .i64 y3)))) :: (19, (.ite (true && ((!y2) == false)) (.d (.s (bs y1.name))))) :: (18, (.ite (true && ((!y2) == false)) (.ptr 4 0))) :: (17, (.ite (true && ((!y2) == false)) (vGCatalog p0))) :: (16, (.d (.b (!y2)))) :: (15, (.d (.b (!y2)))) :: (14, (.d (.b y2))) :: (13, (vGTable y1)) :: (3, (.d (.i .i64 x8))) :: (4, (.ptr 4 0)) :: (12, (vGTable y1)) :: (11, (.rp [(.s (bs y1.name)), (.sl 2 (y1.cols.map cGCol))])) :: (10, (.d (.i .i64 x8))) :: (9, (.d (.b (decide (x8 < (p0.tables.length : Int)))))) :: (stiCatalogOk_L0 p0 x8).env, [(4, [(.d (.s (bs y1.name))), (.d (.sl 2 (y1.cols.map cGCol)))]), (1, [(.d (.sl 2 (p0.tables.map cGTable)))])]⟩) (by kernel_rfl) ?_
        refine nil_in ?_
        refine next_in ?_
        refine ret_in ?_
        refine blockK_ret ?_
        refine thenK_ret ?_
        refine thenK_ret ?_
        refine blockK_ret ?_
        refine thenK_ret ?_
        have h := Option.some.inj h; subst h
        exact ret1_step (v := (.d (.b false))) (by kernel_rfl) (by kernel_rfl) (by kernel_rfl)
      · clear h; intro h
        refine skip_in ?_
        refine blockK_norm ?_
        refine next_in ?_
        refine ops_in ?_
        refine sts_ok 2 (s' := ⟨(8, (.d (.i .i64 (IntKind.wrap .i64 (x8 + 1))))) :: (24, (.d (.i .i64 (IntKind.wrap .i64 (x8 + 1))))) :: (23, (.d (.b (if (!y2) = true then true else (!decide (y3 = x8)))))) :: (22, (.ite (true && ((!y2) == false)) (.d (.b (!decide (y3 = x8)))))) :: (21, (.ite (true && ((!y2) == false)) (.d (.i .i64 x8)))) :: (20, (.ite (true && ((!y2) == false)) (.d (.i .i64 y3)))) :: (19, (.ite (true && ((!y2) == false)) (.d (.s (bs y1.name))))) :: (18, (.ite (true && ((!y2) == false)) (.ptr 4 0))) :: (17, (.ite (true && ((!y2) == false)) (vGCatalog p0))) :: (16, (.d (.b (!y2)))) :: (15, (.d (.b (!y2)))) :: (14, (.d (.b y2))) :: (13, (vGTable y1)) :: (3, (.d (.i .i64 x8))) :: (4, (.ptr 4 0)) :: (12, (vGTable y1)) :: (11, (.rp [(.s (bs y1.name)), (.sl 2 (y1.cols.map cGCol))])) :: (10, (.d (.i .i64 x8))) :: (9, (.d (.b (decide (x8 < (p0.tables.length : Int)))))) :: (stiCatalogOk_L0 p0 x8).env, [(4, [(.d (.s (bs y1.name))), (.d (.sl 2 (y1.cols.map cGCol)))]), (1, [(.d (.sl 2 (p0.tables.map cGTable)))])]⟩) (by kernel_rfl) ?_
        refine nil_in ?_
        exact loop_back (s' := stiCatalogOk_L0 p0 (IntKind.wrap .i64 (x8 + 1))) (wk_ren [] (by kernel_rfl) (er_cons (vr_same (by kernel_rfl) (by kernel_rfl)) (er_cons (vr_same (by kernel_rfl) (by kernel_rfl)) (er_cons (vr_same (by kernel_rfl) (by kernel_rfl)) (er_cons (vr_same (by kernel_rfl) (by kernel_rfl)) (er_nil))))) (br_same (by kernel_rfl) (by kernel_rfl) (br_nil))) (OK_iCatalogOk_L0 (IntKind.wrap .i64 (x8 + 1)) _ h)
    · clear h; intro h
      refine exit_in ?_
      refine thenK_exit ?_
      refine thenK_exit ?_
      refine blockK_here ?_
      refine next_in ?_
      refine seq_in ?_
      refine ops_in ?_
      refine sts_ok 2 (s' := ⟨(26, (.d (.sl 2 (p0.tables.map cGTable)))) :: (25, (.ptr 1 0)) :: (9, (.d (.b (decide (x8 < (p0.tables.length : Int)))))) :: (stiCatalogOk_L0 p0 x8).env, (stiCatalogOk_L0 p0 x8).bx⟩) (by kernel_rfl) ?_
      refine p_step (v' := (.d (.i .i64 (p0.tables.length : Int)))) rfl rfl (vop_len (sz := 2) (l := p0.tables) (f := cGTable) (by kernel_rfl) (by kernel_rfl)) ?_
      refine sts_ok 2 (s' := ⟨(2, (.d (.b (decide ((p0.tables.length : Int) ≤ 4))))) :: (28, (.d (.b (decide ((p0.tables.length : Int) ≤ 4))))) :: (27, (.d (.i .i64 (p0.tables.length : Int)))) :: (26, (.d (.sl 2 (p0.tables.map cGTable)))) :: (25, (.ptr 1 0)) :: (9, (.d (.b (decide (x8 < (p0.tables.length : Int)))))) :: (stiCatalogOk_L0 p0 x8).env, (stiCatalogOk_L0 p0 x8).bx⟩) (by kernel_rfl) ?_
      refine nil_in ?_
      refine next_in ?_
      refine ret_in ?_
      have h := Option.some.inj h; subst h
      exact ret1_step (v := (.d (.b (decide ((p0.tables.length : Int) ≤ 4))))) (by kernel_rfl) (by kernel_rfl) (by kernel_rfl)
theorem OK_iCatalogOk_L0 (p0 : GCatalog) (x8 : Int) (r : Bool) (h : iCatalogOk_L0 p0 x8 = some r) : avc Try.prog aciCatalogOk_L0 (qiCatalogOk_1 r) (stiCatalogOk_L0 p0 x8) := (OKs_iCatalogOk_L0 p0) x8 r h
theorem OK_iCatalogOk (p0 : GCatalog) : FOk Try.prog 87 [(vGCatalog p0)] (fun y => (.d (.b y))) (iCatalogOk p0) := by
  intro r h
  rw [iCatalogOk] at h
  refine acalls_of_fn triCatalogOk (Nat.le_of_ble_eq_true rfl) (by simp) ?_
  show avc Try.prog aciCatalogOk (qiCatalogOk _) ⟨[(0, (vGCatalog p0))], []⟩
  delta aciCatalogOk
  refine seq_in ?_
  refine ops_in ?_
  refine sts_ok 2 (s' := ⟨[(2, (.d (.b false))), (1, (.ptr 1 0)), (0, (vGCatalog p0))], [(1, [(.d (.sl 2 (p0.tables.map cGTable)))])]⟩) (by kernel_rfl) ?_
  refine nil_in ?_
  refine next_in ?_
  refine seq_in ?_
  refine seq_in ?_
  refine ops_in ?_
  refine sts_ok 2 (s' := ⟨[(6, (.d (.sl 2 (p0.tables.map cGTable)))), (5, (.ptr 1 0)), (2, (.d (.b false))), (1, (.ptr 1 0)), (0, (vGCatalog p0))], [(1, [(.d (.sl 2 (p0.tables.map cGTable)))])]⟩) (by kernel_rfl) ?_
  refine p_step (v' := (.d (.i .i64 (p0.tables.length : Int)))) rfl rfl (vop_len (sz := 2) (l := p0.tables) (f := cGTable) (by kernel_rfl) (by kernel_rfl)) ?_
  refine sts_ok 1 (s' := ⟨[(8, (.d (.i .i64 0))), (7, (.d (.i .i64 (p0.tables.length : Int)))), (6, (.d (.sl 2 (p0.tables.map cGTable)))), (5, (.ptr 1 0)), (2, (.d (.b false))), (1, (.ptr 1 0)), (0, (vGCatalog p0))], [(1, [(.d (.sl 2 (p0.tables.map cGTable)))])]⟩) (by kernel_rfl) ?_
  refine nil_in ?_
  refine next_in ?_
  refine block_in ?_
  exact loop_go (s' := stiCatalogOk_L0 p0 0) (wk_ren [] (by kernel_rfl) (er_cons (vr_same (by kernel_rfl) (by kernel_rfl)) (er_cons (vr_same (by kernel_rfl) (by kernel_rfl)) (er_cons (vr_same (by kernel_rfl) (by kernel_rfl)) (er_cons (vr_same (by kernel_rfl) (by kernel_rfl)) (er_nil))))) (br_same (by kernel_rfl) (by kernel_rfl) (br_nil))) (OK_iCatalogOk_L0 p0 0 _ h)
theorem OK_iValueOk (p0 : GValue) : FOk Try.prog 133 [(vGValue p0)] (fun y => (.d (.b y))) (iValueOk p0) := by
  intro r h
  rw [iValueOk] at h
  refine acalls_of_fn triValueOk (Nat.le_of_ble_eq_true rfl) (by simp) ?_
  show avc Try.prog aciValueOk (qiValueOk _) ⟨[(0, (vGValue p0))], []⟩
  delta aciValueOk
  refine seq_in ?_
  refine ops_in ?_
  refine sts_ok 2 (s' := ⟨[(2, (.d (.b false))), (1, (.ptr 1 0)), (0, (vGValue p0))], [(1, [(.d (.i .i64 p0.kind)), (.d (.i .i64 p0.num)), (.d (.s (bs p0.text)))])]⟩) (by kernel_rfl) ?_
  refine nil_in ?_
  refine next_in ?_
  refine seq_in ?_
  refine seq_in ?_
  refine ops_in ?_
  refine sts_ok 2 (s' := ⟨[(4, (.d (.i .i64 p0.kind))), (3, (.ptr 1 0)), (2, (.d (.b false))), (1, (.ptr 1 0)), (0, (vGValue p0))], [(1, [(.d (.i .i64 p0.kind)), (.d (.i .i64 p0.num)), (.d (.s (bs p0.text)))])]⟩) (by kernel_rfl) ?_
  refine nil_in ?_
  refine next_in ?_
  refine block_in ?_
  refine seq_in ?_
  refine ops_in ?_
  refine sts_ok 2 (s' := ⟨[(5, (.d (.b (decide (p0.kind = 0))))), (6, (.d (.b (decide (p0.kind = 0))))), (4, (.d (.i .i64 p0.kind))), (3, (.ptr 1 0)), (2, (.d (.b false))), (1, (.ptr 1 0)), (0, (vGValue p0))], [(1, [(.d (.i .i64 p0.kind)), (.d (.i .i64 p0.num)), (.d (.s (bs p0.text)))])]⟩) (by kernel_rfl) ?_
  refine nil_in ?_
  refine next_in ?_
  refine cond_step h (by kernel_rfl) ?_ ?_
  · clear h; intro h
    refine seq_in ?_
    refine ops_in ?_
    refine sts_ok 4 (s' := ⟨[(10, (.d (.b (decide (p0.num = 0))))), (9, (.d (.b (decide (p0.num = 0))))), (8, (.d (.i .i64 p0.num))), (7, (.ptr 1 1)), (5, (.d (.b (decide (p0.kind = 0))))), (6, (.d (.b (decide (p0.kind = 0))))), (4, (.d (.i .i64 p0.kind))), (3, (.ptr 1 0)), (2, (.d (.b false))), (1, (.ptr 1 0)), (0, (vGValue p0))], [(1, [(.d (.i .i64 p0.kind)), (.d (.i .i64 p0.num)), (.d (.s (bs p0.text)))])]⟩) (by kernel_rfl) ?_
    refine gp_step (p := true) (b := (decide (p0.num = 0))) (v' := (.ptr 1 2)) (by kernel_rfl) rfl rfl (fun hc => vop_val1 (by kernel_rfl) (by kernel_rfl)) ?_
    refine gp_step (p := true) (b := (decide (p0.num = 0))) (v' := (.d (.s (bs p0.text)))) (by kernel_rfl) rfl rfl (fun hc => vop_val1 (Eq.trans (b := ([(true && ((decide (p0.num = 0)) == true))] : List Bool).all id) (by kernel_rfl) (all_c hc rfl)) (by kernel_rfl)) ?_
    refine gp_step (p := true) (b := (decide (p0.num = 0))) (v' := (.d (.b (decide (p0.text = []))))) (by kernel_rfl) rfl rfl (fun hc => vop_val1 (Eq.trans (b := ([(true && ((decide (p0.num = 0)) == true))] : List Bool).all id) (by kernel_rfl) (all_c hc rfl)) (by kernel_rfl)) ?_
    refine p_step (v' := (.d (.b (if (decide (p0.num = 0)) = true then (decide (p0.text = [])) else false)))) rfl rfl (vop_pick (b := (decide (p0.num = 0))) (p := (true && ((decide (p0.num = 0)) == true))) (u := (decide (p0.text = []))) (q := true) (v := false) (by kernel_rfl) (by kernel_rfl) (by kernel_rfl) (by kernel_rfl) (fun hb => gc_t rfl hb) (fun _ => rfl)) ?_
    refine sts_ok 1 (s' := ⟨[(2, (.d (.b (if (decide (p0.num = 0)) = true then (decide (p0.text = [])) else false)))), (14, (.d (.b (if (decide (p0.num = 0)) = true then (decide (p0.text = [])) else false)))), (13, (.ite (true && ((decide (p0.num = 0)) == true)) (.d (.b (decide (p0.text = [])))))), (12, (.ite (true && ((decide (p0.num = 0)) == true)) (.d (.s (bs p0.text))))), (11, (.ite (true && ((decide (p0.num = 0)) == true)) (.ptr 1 2))), (10, (.d (.b (decide (p0.num = 0))))), (9, (.d (.b (decide (p0.num = 0))))), (8, (.d (.i .i64 p0.num))), (7, (.ptr 1 1)), (5, (.d (.b (decide (p0.kind = 0))))), (6, (.d (.b (decide (p0.kind = 0))))), (4, (.d (.i .i64 p0.kind))), (3, (.ptr 1 0)), (2, (.d (.b false))), (1, (.ptr 1 0)), (0, (vGValue p0))], [(1, [(.d (.i .i64 p0.kind)), (.d (.i .i64 p0.num)), (.d (.s (bs p0.text)))])]⟩) (by kernel_rfl) ?_
    refine nil_in ?_
    refine next_in ?_
    refine ret_in ?_
    refine blockK_ret ?_
    refine thenK_ret ?_
    have h := Option.some.inj h; subst h
    exact ret1_step (v := (.d (.b (if (decide (p0.num = 0)) = true then (decide (p0.text = [])) else false)))) (by kernel_rfl) (by kernel_rfl) (by kernel_rfl)
  · clear h; intro h
    refine seq_in ?_
    refine ops_in ?_
    refine sts_ok 2 (s' := ⟨[(15, (.d (.b (decide (p0.kind = 1))))), (16, (.d (.b (decide (p0.kind = 1))))), (5, (.d (.b (decide (p0.kind = 0))))), (6, (.d (.b (decide (p0.kind = 0))))), (4, (.d (.i .i64 p0.kind))), (3, (.ptr 1 0)), (2, (.d (.b false))), (1, (.ptr 1 0)), (0, (vGValue p0))], [(1, [(.d (.i .i64 p0.kind)), (.d (.i .i64 p0.num)), (.d (.s (bs p0.text)))])]⟩) (by kernel_rfl) ?_
    refine nil_in ?_
    refine next_in ?_
    refine cond_step h (by kernel_rfl) ?_ ?_
    · clear h; intro h
      refine seq_in ?_
      refine ops_in ?_
      refine sts_ok 4 (s' := ⟨[(2, (.d (.b (decide (p0.text = []))))), (19, (.d (.b (decide (p0.text = []))))), (18, (.d (.s (bs p0.text)))), (17, (.ptr 1 2)), (15, (.d (.b (decide (p0.kind = 1))))), (16, (.d (.b (decide (p0.kind = 1))))), (5, (.d (.b (decide (p0.kind = 0))))), (6, (.d (.b (decide (p0.kind = 0))))), (4, (.d (.i .i64 p0.kind))), (3, (.ptr 1 0)), (2, (.d (.b false))), (1, (.ptr 1 0)), (0, (vGValue p0))], [(1, [(.d (.i .i64 p0.kind)), (.d (.i .i64 p0.num)), (.d (.s (bs p0.text)))])]⟩) (by kernel_rfl) ?_
      refine nil_in ?_
      refine next_in ?_
      refine ret_in ?_
      refine blockK_ret ?_
      refine thenK_ret ?_
      have h := Option.some.inj h; subst h
      exact ret1_step (v := (.d (.b (decide (p0.text = []))))) (by kernel_rfl) (by kernel_rfl) (by kernel_rfl)
    · clear h; intro h
      refine seq_in ?_
      refine ops_in ?_
      refine sts_ok 2 (s' := ⟨[(20, (.d (.b (decide (p0.kind = 2))))), (21, (.d (.b (decide (p0.kind = 2))))), (15, (.d (.b (decide (p0.kind = 1))))), (16, (.d (.b (decide (p0.kind = 1))))), (5, (.d (.b (decide (p0.kind = 0))))), (6, (.d (.b (decide (p0.kind = 0))))), (4, (.d (.i .i64 p0.kind))), (3, (.ptr 1 0)), (2, (.d (.b false))), (1, (.ptr 1 0)), (0, (vGValue p0))], [(1, [(.d (.i .i64 p0.kind)), (.d (.i .i64 p0.num)), (.d (.s (bs p0.text)))])]⟩) (by kernel_rfl) ?_
      refine nil_in ?_
      refine next_in ?_
      refine cond_step h (by kernel_rfl) ?_ ?_
      · clear h; intro h
        refine seq_in ?_
        refine ops_in ?_
        refine sts_ok 4 (s' := ⟨[(25, (.d (.b (decide (p0.num = 0))))), (24, (.d (.b (decide (p0.num = 0))))), (23, (.d (.i .i64 p0.num))), (22, (.ptr 1 1)), (20, (.d (.b (decide (p0.kind = 2))))), (21, (.d (.b (decide (p0.kind = 2))))), (15, (.d (.b (decide (p0.kind = 1))))), (16, (.d (.b (decide (p0.kind = 1))))), (5, (.d (.b (decide (p0.kind = 0))))), (6, (.d (.b (decide (p0.kind = 0))))), (4, (.d (.i .i64 p0.kind))), (3, (.ptr 1 0)), (2, (.d (.b false))), (1, (.ptr 1 0)), (0, (vGValue p0))], [(1, [(.d (.i .i64 p0.kind)), (.d (.i .i64 p0.num)), (.d (.s (bs p0.text)))])]⟩) (by kernel_rfl) ?_
        refine gp_step (p := true) (b := (decide (p0.num = 0))) (v' := (.ptr 1 2)) (by kernel_rfl) rfl rfl (fun hc => vop_val1 (by kernel_rfl) (by kernel_rfl)) ?_
        refine gp_step (p := true) (b := (decide (p0.num = 0))) (v' := (.d (.s (bs p0.text)))) (by kernel_rfl) rfl rfl (fun hc => vop_val1 (Eq.trans (b := ([(true && ((decide (p0.num = 0)) == true))] : List Bool).all id) (by kernel_rfl) (all_c hc rfl)) (by kernel_rfl)) ?_
        refine gp_step (p := true) (b := (decide (p0.num = 0))) (v' := (.d (.i .i64 (p0.text.length : Int)))) (by kernel_rfl) rfl rfl (fun hc => vop_val1 (Eq.trans (b := ([(true && ((decide (p0.num = 0)) == true))] : List Bool).all id) (by kernel_rfl) (all_c hc rfl)) (by kernel_rfl)) ?_
        refine gp_step (p := true) (b := (decide (p0.num = 0))) (v' := (.d (.b (decide ((p0.text.length : Int) ≤ 200))))) (by kernel_rfl) rfl rfl (fun hc => vop_val1 (Eq.trans (b := ([(true && ((decide (p0.num = 0)) == true))] : List Bool).all id) (by kernel_rfl) (all_c hc rfl)) (by kernel_rfl)) ?_
        refine p_step (v' := (.d (.b (if (decide (p0.num = 0)) = true then (decide ((p0.text.length : Int) ≤ 200)) else false)))) rfl rfl (vop_pick (b := (decide (p0.num = 0))) (p := (true && ((decide (p0.num = 0)) == true))) (u := (decide ((p0.text.length : Int) ≤ 200))) (q := true) (v := false) (by kernel_rfl) (by kernel_rfl) (by kernel_rfl) (by kernel_rfl) (fun hb => gc_t rfl hb) (fun _ => rfl)) ?_
        refine sts_ok 1 (s' := ⟨[(2, (.d (.b (if (decide (p0.num = 0)) = true then (decide ((p0.text.length : Int) ≤ 200)) else false)))), (30, (.d (.b (if (decide (p0.num = 0)) = true then (decide ((p0.text.length : Int) ≤ 200)) else false)))), (29, (.ite (true && ((decide (p0.num = 0)) == true)) (.d (.b (decide ((p0.text.length : Int) ≤ 200)))))), (28, (.ite (true && ((decide (p0.num = 0)) == true)) (.d (.i .i64 (p0.text.length : Int))))), (27, (.ite (true && ((decide (p0.num = 0)) == true)) (.d (.s (bs p0.text))))), (26, (.ite (true && ((decide (p0.num = 0)) == true)) (.ptr 1 2))), (25, (.d (.b (decide (p0.num = 0))))), (24, (.d (.b (decide (p0.num = 0))))), (23, (.d (.i .i64 p0.num))), (22, (.ptr 1 1)), (20, (.d (.b (decide (p0.kind = 2))))), (21, (.d (.b (decide (p0.kind = 2))))), (15, (.d (.b (decide (p0.kind = 1))))), (16, (.d (.b (decide (p0.kind = 1))))), (5, (.d (.b (decide (p0.kind = 0))))), (6, (.d (.b (decide (p0.kind = 0))))), (4, (.d (.i .i64 p0.kind))), (3, (.ptr 1 0)), (2, (.d (.b false))), (1, (.ptr 1 0)), (0, (vGValue p0))], [(1, [(.d (.i .i64 p0.kind)), (.d (.i .i64 p0.num)), (.d (.s (bs p0.text)))])]⟩) (by kernel_rfl) ?_
        refine nil_in ?_
        refine next_in ?_
        refine ret_in ?_
        refine blockK_ret ?_
        refine thenK_ret ?_
        have h := Option.some.inj h; subst h
        exact ret1_step (v := (.d (.b (if (decide (p0.num = 0)) = true then (decide ((p0.text.length : Int) ≤ 200)) else false)))) (by kernel_rfl) (by kernel_rfl) (by kernel_rfl)
      · clear h; intro h
        refine seq_in ?_
        refine ops_in ?_
        refine sts_ok 2 (s' := ⟨[(31, (.d (.b (decide (p0.kind = 3))))), (32, (.d (.b (decide (p0.kind = 3))))), (20, (.d (.b (decide (p0.kind = 2))))), (21, (.d (.b (decide (p0.kind = 2))))), (15, (.d (.b (decide (p0.kind = 1))))), (16, (.d (.b (decide (p0.kind = 1))))), (5, (.d (.b (decide (p0.kind = 0))))), (6, (.d (.b (decide (p0.kind = 0))))), (4, (.d (.i .i64 p0.kind))), (3, (.ptr 1 0)), (2, (.d (.b false))), (1, (.ptr 1 0)), (0, (vGValue p0))], [(1, [(.d (.i .i64 p0.kind)), (.d (.i .i64 p0.num)), (.d (.s (bs p0.text)))])]⟩) (by kernel_rfl) ?_
        refine nil_in ?_
        refine next_in ?_
        refine cond_step h (by kernel_rfl) ?_ ?_
        · clear h; intro h
          refine seq_in ?_
          refine ops_in ?_
          refine sts_ok 4 (s' := ⟨[(36, (.d (.b (decide (p0.num = 0))))), (35, (.d (.b (decide (p0.num = 0))))), (34, (.d (.i .i64 p0.num))), (33, (.ptr 1 1)), (31, (.d (.b (decide (p0.kind = 3))))), (32, (.d (.b (decide (p0.kind = 3))))), (20, (.d (.b (decide (p0.kind = 2))))), (21, (.d (.b (decide (p0.kind = 2))))), (15, (.d (.b (decide (p0.kind = 1))))), (16, (.d (.b (decide (p0.kind = 1))))), (5, (.d (.b (decide (p0.kind = 0))))), (6, (.d (.b (decide (p0.kind = 0))))), (4, (.d (.i .i64 p0.kind))), (3, (.ptr 1 0)), (2, (.d (.b false))), (1, (.ptr 1 0)), (0, (vGValue p0))], [(1, [(.d (.i .i64 p0.kind)), (.d (.i .i64 p0.num)), (.d (.s (bs p0.text)))])]⟩) (by kernel_rfl) ?_
          refine gp_step (p := true) (b := (decide (p0.num = 0))) (v' := (.ptr 1 1)) (by kernel_rfl) rfl rfl (fun hc => vop_val1 (by kernel_rfl) (by kernel_rfl)) ?_
          refine gp_step (p := true) (b := (decide (p0.num = 0))) (v' := (.d (.i .i64 p0.num))) (by kernel_rfl) rfl rfl (fun hc => vop_val1 (Eq.trans (b := ([(true && ((decide (p0.num = 0)) == false))] : List Bool).all id) (by kernel_rfl) (all_c hc rfl)) (by kernel_rfl)) ?_
          refine gp_step (p := true) (b := (decide (p0.num = 0))) (v' := (.d (.b (decide (p0.num = 1))))) (by kernel_rfl) rfl rfl (fun hc => vop_val1 (Eq.trans (b := ([(true && ((decide (p0.num = 0)) == false))] : List Bool).all id) (by kernel_rfl) (all_c hc rfl)) (by kernel_rfl)) ?_
          refine p_step (v' := (.d (.b (if (decide (p0.num = 0)) = true then true else (decide (p0.num = 1)))))) rfl rfl (vop_pick (b := (decide (p0.num = 0))) (p := true) (u := true) (q := (true && ((decide (p0.num = 0)) == false))) (v := (decide (p0.num = 1))) (by kernel_rfl) (by kernel_rfl) (by kernel_rfl) (by kernel_rfl) (fun _ => rfl) (fun hb => gc_f rfl hb)) ?_
          refine sts_ok 1 (s' := ⟨[(41, (.d (.b (if (decide (p0.num = 0)) = true then true else (decide (p0.num = 1)))))), (40, (.d (.b (if (decide (p0.num = 0)) = true then true else (decide (p0.num = 1)))))), (39, (.ite (true && ((decide (p0.num = 0)) == false)) (.d (.b (decide (p0.num = 1)))))), (38, (.ite (true && ((decide (p0.num = 0)) == false)) (.d (.i .i64 p0.num)))), (37, (.ite (true && ((decide (p0.num = 0)) == false)) (.ptr 1 1))), (36, (.d (.b (decide (p0.num = 0))))), (35, (.d (.b (decide (p0.num = 0))))), (34, (.d (.i .i64 p0.num))), (33, (.ptr 1 1)), (31, (.d (.b (decide (p0.kind = 3))))), (32, (.d (.b (decide (p0.kind = 3))))), (20, (.d (.b (decide (p0.kind = 2))))), (21, (.d (.b (decide (p0.kind = 2))))), (15, (.d (.b (decide (p0.kind = 1))))), (16, (.d (.b (decide (p0.kind = 1))))), (5, (.d (.b (decide (p0.kind = 0))))), (6, (.d (.b (decide (p0.kind = 0))))), (4, (.d (.i .i64 p0.kind))), (3, (.ptr 1 0)), (2, (.d (.b false))), (1, (.ptr 1 0)), (0, (vGValue p0))], [(1, [(.d (.i .i64 p0.kind)), (.d (.i .i64 p0.num)), (.d (.s (bs p0.text)))])]⟩) (by kernel_rfl) ?_
          refine gp_step (p := true) (b := (if (decide (p0.num = 0)) = true then true else (decide (p0.num = 1)))) (v' := (.ptr 1 2)) (by kernel_rfl) rfl rfl (fun hc => vop_val1 (by kernel_rfl) (by kernel_rfl)) ?_
          refine gp_step (p := true) (b := (if (decide (p0.num = 0)) = true then true else (decide (p0.num = 1)))) (v' := (.d (.s (bs p0.text)))) (by kernel_rfl) rfl rfl (fun hc => vop_val1 (Eq.trans (b := ([(true && ((if (decide (p0.num = 0)) = true then true else (decide (p0.num = 1))) == true))] : List Bool).all id) (by kernel_rfl) (all_c hc rfl)) (by kernel_rfl)) ?_
          refine gp_step (p := true) (b := (if (decide (p0.num = 0)) = true then true else (decide (p0.num = 1)))) (v' := (.d (.b (decide (p0.text = []))))) (by kernel_rfl) rfl rfl (fun hc => vop_val1 (Eq.trans (b := ([(true && ((if (decide (p0.num = 0)) = true then true else (decide (p0.num = 1))) == true))] : List Bool).all id) (by kernel_rfl) (all_c hc rfl)) (by kernel_rfl)) ?_
          refine p_step (v' := (.d (.b (if (if (decide (p0.num = 0)) = true then true else (decide (p0.num = 1))) = true then (decide (p0.text = [])) else false)))) rfl rfl (vop_pick (b := (if (decide (p0.num = 0)) = true then true else (decide (p0.num = 1)))) (p := (true && ((if (decide (p0.num = 0)) = true then true else (decide (p0.num = 1))) == true))) (u := (decide (p0.text = []))) (q := true) (v := false) (by kernel_rfl) (by kernel_rfl) (by kernel_rfl) (by kernel_rfl) (fun hb => gc_t rfl hb) (fun _ => rfl)) ?_
          refine sts_ok 1 (s' := ⟨[(2, (.d (.b (if (if (decide (p0.num = 0)) = true then true else (decide (p0.num = 1))) = true then (decide (p0.text = [])) else false)))), (45, (.d (.b (if (if (decide (p0.num = 0)) = true then true else (decide (p0.num = 1))) = true then (decide (p0.text = [])) else false)))), (44, (.ite (true && ((if (decide (p0.num = 0)) = true then true else (decide (p0.num = 1))) == true)) (.d (.b (decide (p0.text = [])))))), (43, (.ite (true && ((if (decide (p0.num = 0)) = true then true else (decide (p0.num = 1))) == true)) (.d (.s (bs p0.text))))), (42, (.ite (true && ((if (decide (p0.num = 0)) = true then true else (decide (p0.num = 1))) == true)) (.ptr 1 2))), (41, (.d (.b (if (decide (p0.num = 0)) = true then true else (decide (p0.num = 1)))))), (40, (.d (.b (if (decide (p0.num = 0)) = true then true else (decide (p0.num = 1)))))), (39, (.ite (true && ((decide (p0.num = 0)) == false)) (.d (.b (decide (p0.num = 1)))))), (38, (.ite (true && ((decide (p0.num = 0)) == false)) (.d (.i .i64 p0.num)))), (37, (.ite (true && ((decide (p0.num = 0)) == false)) (.ptr 1 1))), (36, (.d (.b (decide (p0.num = 0))))), (35, (.d (.b (decide (p0.num = 0))))), (34, (.d (.i .i64 p0.num))), (33, (.ptr 1 1)), (31, (.d (.b (decide (p0.kind = 3))))), (32, (.d (.b (decide (p0.kind = 3))))), (20, (.d (.b (decide (p0.kind = 2))))), (21, (.d (.b (decide (p0.kind = 2))))), (15, (.d (.b (decide (p0.kind = 1))))), (16, (.d (.b (decide (p0.kind = 1))))), (5, (.d (.b (decide (p0.kind = 0))))), (6, (.d (.b (decide (p0.kind = 0))))), (4, (.d (.i .i64 p0.kind))), (3, (.ptr 1 0)), (2, (.d (.b false))), (1, (.ptr 1 0)), (0, (vGValue p0))], [(1, [(.d (.i .i64 p0.kind)), (.d (.i .i64 p0.num)), (.d (.s (bs p0.text)))])]⟩) (by kernel_rfl) ?_
          refine nil_in ?_
          refine next_in ?_
          refine ret_in ?_
          refine blockK_ret ?_
          refine thenK_ret ?_
          have h := Option.some.inj h; subst h
          exact ret1_step (v := (.d (.b (if (if (decide (p0.num = 0)) = true then true else (decide (p0.num = 1))) = true then (decide (p0.text = [])) else false)))) (by kernel_rfl) (by kernel_rfl) (by kernel_rfl)
        · clear h; intro h
          refine skip_in ?_
          refine blockK_norm ?_
          refine next_in ?_
          refine seq_in ?_
          refine ops_in ?_
          refine sts_ok 1 (s' := ⟨[(2, (.d (.b false))), (31, (.d (.b (decide (p0.kind = 3))))), (32, (.d (.b (decide (p0.kind = 3))))), (20, (.d (.b (decide (p0.kind = 2))))), (21, (.d (.b (decide (p0.kind = 2))))), (15, (.d (.b (decide (p0.kind = 1))))), (16, (.d (.b (decide (p0.kind = 1))))), (5, (.d (.b (decide (p0.kind = 0))))), (6, (.d (.b (decide (p0.kind = 0))))), (4, (.d (.i .i64 p0.kind))), (3, (.ptr 1 0)), (2, (.d (.b false))), (1, (.ptr 1 0)), (0, (vGValue p0))], [(1, [(.d (.i .i64 p0.kind)), (.d (.i .i64 p0.num)), (.d (.s (bs p0.text)))])]⟩) (by kernel_rfl) ?_
          refine nil_in ?_
          refine next_in ?_
          refine ret_in ?_
          have h := Option.some.inj h; subst h
          exact ret1_step (v := (.d (.b false))) (by kernel_rfl) (by kernel_rfl) (by kernel_rfl)
theorem OK_iFitsType (p0 : GValue) (p1 : Int) : FOk Try.prog 164 [(vGValue p0), (.d (.i .i64 p1))] (fun y => (.d (.b y))) (iFitsType p0 p1) := by
  intro r h
  rw [iFitsType] at h
  refine acalls_of_fn triFitsType (Nat.le_of_ble_eq_true rfl) (by simp) ?_
  show avc Try.prog aciFitsType (qiFitsType _) ⟨[(0, (vGValue p0)), (1, (.d (.i .i64 p1)))], []⟩
  delta aciFitsType
  refine seq_in ?_
  refine ops_in ?_
  refine sts_ok 2 (s' := ⟨[(4, (.d (.b false))), (2, (.ptr 2 0)), (0, (vGValue p0)), (1, (.d (.i .i64 p1)))], [(2, [(.d (.i .i64 p0.kind)), (.d (.i .i64 p0.num)), (.d (.s (bs p0.text)))])]⟩) (by kernel_rfl) ?_
  refine nil_in ?_
  refine next_in ?_
  refine seq_in ?_
  refine ops_in ?_
  refine sts_ok 1 (s' := ⟨[(5, (vGValue p0)), (4, (.d (.b false))), (2, (.ptr 2 0)), (0, (vGValue p0)), (1, (.d (.i .i64 p1)))], [(2, [(.d (.i .i64 p0.kind)), (.d (.i .i64 p0.num)), (.d (.s (bs p0.text)))])]⟩) (by kernel_rfl) ?_
  refine call_step (m := iValueOk p0) (args := [(vGValue p0)]) (v' := (fun y => (.d (.b y)))) h (OK_iValueOk p0) (by kernel_rfl) (by kernel_rfl) (fun _ => rfl) ?_
  clear h; intro y1 h
  refine sts_ok 1 (s' := ⟨[(7, (.d (.b y1))), (6, (.d (.b y1))), (5, (vGValue p0)), (4, (.d (.b false))), (2, (.ptr 2 0)), (0, (vGValue p0)), (1, (.d (.i .i64 p1)))], [(2, [(.d (.i .i64 p0.kind)), (.d (.i .i64 p0.num)), (.d (.s (bs p0.text)))])]⟩) (by kernel_rfl) ?_
  refine gp_step (p := true) (b := y1) (v' := (.ptr 2 0)) (by kernel_rfl) rfl rfl (fun hc => vop_val1 (by kernel_rfl) (by kernel_rfl)) ?_
  refine gp_step (p := true) (b := y1) (v' := (.d (.i .i64 p0.kind))) (by kernel_rfl) rfl rfl (fun hc => vop_val1 (Eq.trans (b := ([(true && (y1 == true))] : List Bool).all id) (by kernel_rfl) (all_c hc rfl)) (by kernel_rfl)) ?_
  refine gp_step (p := true) (b := y1) (v' := (.d (.b (decide (p0.kind = 0))))) (by kernel_rfl) rfl rfl (fun hc => vop_val1 (Eq.trans (b := ([(true && (y1 == true))] : List Bool).all id) (by kernel_rfl) (all_c hc rfl)) (by kernel_rfl)) ?_
  refine gp_step (p := true) (b := y1) (v' := (.d (.b (decide (p0.kind = 0))))) (by kernel_rfl) rfl rfl (fun hc => vop_val1 (Eq.trans (b := ([(true && (y1 == true))] : List Bool).all id) (by kernel_rfl) (all_c hc rfl)) (by kernel_rfl)) ?_
  refine gp_step (p := (true && (y1 == true))) (b := (decide (p0.kind = 0))) (v' := (.ptr 2 0)) (by kernel_rfl) rfl rfl (fun hc => vop_val1 (by kernel_rfl) (by kernel_rfl)) ?_
  refine gp_step (p := (true && (y1 == true))) (b := (decide (p0.kind = 0))) (v' := (.d (.i .i64 p0.kind))) (by kernel_rfl) rfl rfl (fun hc => vop_val1 (Eq.trans (b := ([((true && (y1 == true)) && ((decide (p0.kind = 0)) == false))] : List Bool).all id) (by kernel_rfl) (all_c hc rfl)) (by kernel_rfl)) ?_
  refine gp_step (p := (true && (y1 == true))) (b := (decide (p0.kind = 0))) (v' := (.d (.i .i64 p1))) (by kernel_rfl) rfl rfl (fun hc => vop_val1 (by kernel_rfl) (by kernel_rfl)) ?_
  refine gp_step (p := (true && (y1 == true))) (b := (decide (p0.kind = 0))) (v' := (.d (.b (decide (p0.kind = p1))))) (by kernel_rfl) rfl rfl (fun hc => vop_val1 (Eq.trans (b := ([((true && (y1 == true)) && ((decide (p0.kind = 0)) == false)), ((true && (y1 == true)) && ((decide (p0.kind = 0)) == false))] : List Bool).all id) (by kernel_rfl) (all_c hc (all_c hc rfl))) (by kernel_rfl)) ?_
  refine gp_step (p := true) (b := y1) (v' := (.d (.b (if (decide (p0.kind = 0)) = true then true else (decide (p0.kind = p1)))))) (by kernel_rfl) rfl rfl (fun hc => vop_pick (b := (decide (p0.kind = 0))) (p := true) (u := true) (q := ((true && (y1 == true)) && ((decide (p0.kind = 0)) == false))) (v := (decide (p0.kind = p1))) (Eq.trans (b := ([(true && (y1 == true))] : List Bool).all id) (by kernel_rfl) (all_c hc rfl)) (by kernel_rfl) (by kernel_rfl) (by kernel_rfl) (fun _ => rfl) (fun hb => gc_f hc hb)) ?_
  refine p_step (v' := (.d (.b (if y1 = true then (if (decide (p0.kind = 0)) = true then true else (decide (p0.kind = p1))) else false)))) rfl rfl (vop_pick (b := y1) (p := (true && (y1 == true))) (u := (if (decide (p0.kind = 0)) = true then true else (decide (p0.kind = p1)))) (q := true) (v := false) (by kernel_rfl) (by kernel_rfl) (by kernel_rfl) (by kernel_rfl) (fun hb => gc_t rfl hb) (fun _ => rfl)) ?_
  refine sts_ok 1 (s' := ⟨[(4, (.d (.b (if y1 = true then (if (decide (p0.kind = 0)) = true then true else (decide (p0.kind = p1))) else false)))), (17, (.d (.b (if y1 = true then (if (decide (p0.kind = 0)) = true then true else (decide (p0.kind = p1))) else false)))), (16, (.ite (true && (y1 == true)) (.d (.b (if (decide (p0.kind = 0)) = true then true else (decide (p0.kind = p1))))))), (15, (.ite ((true && (y1 == true)) && ((decide (p0.kind = 0)) == false)) (.d (.b (decide (p0.kind = p1)))))), (14, (.ite ((true && (y1 == true)) && ((decide (p0.kind = 0)) == false)) (.d (.i .i64 p1)))), (13, (.ite ((true && (y1 == true)) && ((decide (p0.kind = 0)) == false)) (.d (.i .i64 p0.kind)))), (12, (.ite ((true && (y1 == true)) && ((decide (p0.kind = 0)) == false)) (.ptr 2 0))), (11, (.ite (true && (y1 == true)) (.d (.b (decide (p0.kind = 0)))))), (10, (.ite (true && (y1 == true)) (.d (.b (decide (p0.kind = 0)))))), (9, (.ite (true && (y1 == true)) (.d (.i .i64 p0.kind)))), (8, (.ite (true && (y1 == true)) (.ptr 2 0))), (7, (.d (.b y1))), (6, (.d (.b y1))), (5, (vGValue p0)), (4, (.d (.b false))), (2, (.ptr 2 0)), (0, (vGValue p0)), (1, (.d (.i .i64 p1)))], [(2, [(.d (.i .i64 p0.kind)), (.d (.i .i64 p0.num)), (.d (.s (bs p0.text)))])]⟩) (by kernel_rfl) ?_
  refine nil_in ?_
  refine next_in ?_
  refine ret_in ?_
  have h := Option.some.inj h; subst h
  exact ret1_step (v := (.d (.b (if y1 = true then (if (decide (p0.kind = 0)) = true then true else (decide (p0.kind = p1))) else false)))) (by kernel_rfl) (by kernel_rfl) (by kernel_rfl)
theorem OKs_iRowFits_L0 (p1 : (List Int)) (p0 : (List GValue)) : (∀ (x14 : Int) (r : Bool), iRowFits_L0 p1 p0 x14 = some r → avc Try.prog aciRowFits_L0 (qiRowFits_1 r) (stiRowFits_L0 p1 p0 x14)) := by
  refine iRowFits_L0.partial_correctness p1 p0 (fun x14 r => avc Try.prog aciRowFits_L0 (qiRowFits_1 r) (stiRowFits_L0 p1 p0 x14)) ?_
  · intro F_iRowFits_L0 OK_iRowFits_L0 x14 r h
    delta aciRowFits_L0
    refine loop_unroll ?_
    refine seq_in ?_
    refine ops_in ?_
    refine sts_ok 1 (s' := ⟨(15, (.d (.b (decide (x14 < (p0.length : Int)))))) :: (stiRowFits_L0 p1 p0 x14).env, (stiRowFits_L0 p1 p0 x14).bx⟩) (by kernel_rfl) ?_
    refine nil_in ?_
    refine next_in ?_
    refine seq_in ?_
    refine cond_step h (by kernel_rfl) ?_ ?_
    · clear h; intro h
      refine skip_in ?_
      refine next_in ?_
      refine seq_in ?_
      refine block_in ?_
      refine seq_in ?_
      refine ops_in ?_
      refine sts_ok 1 (s' := ⟨(16, (.d (.i .i64 x14))) :: (15, (.d (.b (decide (x14 < (p0.length : Int)))))) :: (stiRowFits_L0 p1 p0 x14).env, (stiRowFits_L0 p1 p0 x14).bx⟩) (by kernel_rfl) ?_
      refine v_step (m := idx p0 x14) (v' := fun y => (.rp [(.i .i64 y.kind), (.i .i64 y.num), (.s (bs y.text))])) h rfl rfl (fun y hy => vop_ia (l := p0) (f := cGValue) (g := cGValue) (k := .i64) hy (fun _ => rfl) (by kernel_rfl) (by kernel_rfl) (by kernel_rfl)) ?_
      clear h; intro y1 h
      refine sts_ok 4 (s' := ⟨(5, (.d (.i .i64 x14))) :: (6, (.ptr 6 0)) :: (18, (vGValue y1)) :: (17, (.rp [(.i .i64 y1.kind), (.i .i64 y1.num), (.s (bs y1.text))])) :: (16, (.d (.i .i64 x14))) :: (15, (.d (.b (decide (x14 < (p0.length : Int)))))) :: (stiRowFits_L0 p1 p0 x14).env, [(6, [(.d (.i .i64 y1.kind)), (.d (.i .i64 y1.num)), (.d (.s (bs y1.text)))])]⟩) (by kernel_rfl) ?_
      refine nil_in ?_
      refine next_in ?_
      refine seq_in ?_
      refine dops_in ?_
      refine dsts_ok 3 (s' := ⟨(21, (.d (.i .i64 x14))) :: (20, (.d (.sl 1 (p1.map cI)))) :: (19, (vGValue y1)) :: (5, (.d (.i .i64 x14))) :: (6, (.ptr 6 0)) :: (18, (vGValue y1)) :: (17, (.rp [(.i .i64 y1.kind), (.i .i64 y1.num), (.s (bs y1.text))])) :: (16, (.d (.i .i64 x14))) :: (15, (.d (.b (decide (x14 < (p0.length : Int)))))) :: (stiRowFits_L0 p1 p0 x14).env, [(6, [(.d (.i .i64 y1.kind)), (.d (.i .i64 y1.num)), (.d (.s (bs y1.text)))])]⟩) (by kernel_rfl) ?_
      refine dv_step (m := idx p1 x14) (v' := fun y => (.rp [(.i .i64 y)])) h rfl rfl (fun y hy => vop_ia (l := p1) (f := cI) (g := cI) (k := .i64) hy (fun _ => rfl) (by kernel_rfl) (by kernel_rfl) (by kernel_rfl)) ?_
      clear h; intro y2 h
      refine dsts_ok 1 (s' := ⟨(23, (.d (.i .i64 y2))) :: (22, (.rp [(.i .i64 y2)])) :: (21, (.d (.i .i64 x14))) :: (20, (.d (.sl 1 (p1.map cI)))) :: (19, (vGValue y1)) :: (5, (.d (.i .i64 x14))) :: (6, (.ptr 6 0)) :: (18, (vGValue y1)) :: (17, (.rp [(.i .i64 y1.kind), (.i .i64 y1.num), (.s (bs y1.text))])) :: (16, (.d (.i .i64 x14))) :: (15, (.d (.b (decide (x14 < (p0.length : Int)))))) :: (stiRowFits_L0 p1 p0 x14).env, [(6, [(.d (.i .i64 y1.kind)), (.d (.i .i64 y1.num)), (.d (.s (bs y1.text)))])]⟩) (by kernel_rfl) ?_
      refine dcall_step (m := iFitsType y1 y2) (args := [(vGValue y1), (.d (.i .i64 y2))]) (v' := (fun y => (.d (.b y)))) h (OK_iFitsType y1 y2) (by kernel_rfl) (by kernel_rfl) (fun _ => rfl) ?_
      clear h; intro y3 h
      refine dsts_ok 1 (s' := ⟨(25, (.d (.b (!y3)))) :: (24, (.d (.b y3))) :: (23, (.d (.i .i64 y2))) :: (22, (.rp [(.i .i64 y2)])) :: (21, (.d (.i .i64 x14))) :: (20, (.d (.sl 1 (p1.map cI)))) :: (19, (vGValue y1)) :: (5, (.d (.i .i64 x14))) :: (6, (.ptr 6 0)) :: (18, (vGValue y1)) :: (17, (.rp [(.i .i64 y1.kind), (.i .i64 y1.num), (.s (bs y1.text))])) :: (16, (.d (.i .i64 x14))) :: (15, (.d (.b (decide (x14 < (p0.length : Int)))))) :: (stiRowFits_L0 p1 p0 x14).env, [(6, [(.d (.i .i64 y1.kind)), (.d (.i .i64 y1.num)), (.d (.s (bs y1.text)))])]⟩) (by kernel_rfl) ?_
      refine dnil_in (by kernel_rfl) (by kernel_rfl) ?_
      refine next_in ?_
      refine cond_step h (by kernel_rfl) ?_ ?_
      · clear h; intro h
        refine seq_in ?_
        refine ops_in ?_
        refine sts_ok 1 (s' := ⟨(4, (.d (.b false))) :: (25, (.d (.b (!y3)))) :: (24, (.d (.b y3))) :: (23, (.d (.i .i64 y2))) :: (22, (.rp [(.i .i64 y2)])) :: (21, (.d (.i .i64 x14))) :: (20, (.d (.sl 1 (p1.map cI)))) :: (19, (vGValue y1)) :: (5, (.d (.i .i64 x14))) :: (6, (.ptr 6 0)) :: (18, (vGValue y1)) :: (17, (.rp [(.i .i64 y1.kind), (.i .i64 y1.num), (.s (bs y1.text))])) :: (16, (.d (.i .i64 x14))) :: (15, (.d (.b (decide (x14 < (p0.length : Int)))))) :: (stiRowFits_L0 p1 p0 x14).env, [(6, [(.d (.i .i64 y1.kind)), (.d (.i .i64 y1.num)), (.d (.s (bs y1.text)))])]⟩) (by kernel_rfl) ?_
        refine nil_in ?_
        refine next_in ?_
        refine ret_in ?_
        refine blockK_ret ?_
        refine thenK_ret ?_
        refine thenK_ret ?_
        refine blockK_ret ?_
        refine thenK_ret ?_
        have h := Option.some.inj h; subst h
        exact ret1_step (v := (.d (.b false))) (by kernel_rfl) (by kernel_rfl) (by kernel_rfl)
      · clear h; intro h
        refine skip_in ?_
        refine blockK_norm ?_
        refine next_in ?_
        refine ops_in ?_
        refine sts_ok 2 (s' := ⟨(14, (.d (.i .i64 (IntKind.wrap .i64 (x14 + 1))))) :: (26, (.d (.i .i64 (IntKind.wrap .i64 (x14 + 1))))) :: (25, (.d (.b (!y3)))) :: (24, (.d (.b y3))) :: (23, (.d (.i .i64 y2))) :: (22, (.rp [(.i .i64 y2)])) :: (21, (.d (.i .i64 x14))) :: (20, (.d (.sl 1 (p1.map cI)))) :: (19, (vGValue y1)) :: (5, (.d (.i .i64 x14))) :: (6, (.ptr 6 0)) :: (18, (vGValue y1)) :: (17, (.rp [(.i .i64 y1.kind), (.i .i64 y1.num), (.s (bs y1.text))])) :: (16, (.d (.i .i64 x14))) :: (15, (.d (.b (decide (x14 < (p0.length : Int)))))) :: (stiRowFits_L0 p1 p0 x14).env, [(6, [(.d (.i .i64 y1.kind)), (.d (.i .i64 y1.num)), (.d (.s (bs y1.text)))])]⟩) (by kernel_rfl) ?_
        refine nil_in ?_
        exact loop_back (s' := stiRowFits_L0 p1 p0 (IntKind.wrap .i64 (x14 + 1))) (wk_ren [] (by kernel_rfl) (er_cons (vr_same (by kernel_rfl) (by kernel_rfl)) (er_cons (vr_same (by kernel_rfl) (by kernel_rfl)) (er_cons (vr_same (by kernel_rfl) (by kernel_rfl)) (er_cons (vr_same (by kernel_rfl) (by kernel_rfl)) (er_nil))))) (br_nil)) (OK_iRowFits_L0 (IntKind.wrap .i64 (x14 + 1)) _ h)
    · clear h; intro h
      refine exit_in ?_
      refine thenK_exit ?_
      refine thenK_exit ?_
      refine blockK_here ?_
      refine next_in ?_
      refine seq_in ?_
      refine ops_in ?_
      refine sts_ok 1 (s' := ⟨(4, (.d (.b true))) :: (15, (.d (.b (decide (x14 < (p0.length : Int)))))) :: (stiRowFits_L0 p1 p0 x14).env, (stiRowFits_L0 p1 p0 x14).bx⟩) (by kernel_rfl) ?_
      refine nil_in ?_
      refine next_in ?_
      refine ret_in ?_
      have h := Option.some.inj h; subst h
      exact ret1_step (v := (.d (.b true))) (by kernel_rfl) (by kernel_rfl) (by kernel_rfl)
theorem OK_iRowFits_L0 (p1 : (List Int)) (p0 : (List GValue)) (x14 : Int) (r : Bool) (h : iRowFits_L0 p1 p0 x14 = some r) : avc Try.prog aciRowFits_L0 (qiRowFits_1 r) (stiRowFits_L0 p1 p0 x14) := (OKs_iRowFits_L0 p1 p0) x14 r h
theorem OK_iRowFits (p0 : (List GValue)) (p1 : (List Int)) : FOk Try.prog 91 [(.d (.sl 3 (p0.map cGValue))), (.d (.sl 1 (p1.map cI)))] (fun y => (.d (.b y))) (iRowFits p0 p1) := by
  intro r h
  rw [iRowFits] at h
  refine acalls_of_fn triRowFits (Nat.le_of_ble_eq_true rfl) (by simp) ?_
  show avc Try.prog aciRowFits (qiRowFits _) ⟨[(0, (.d (.sl 3 (p0.map cGValue)))), (1, (.d (.sl 1 (p1.map cI))))], []⟩
  delta aciRowFits
  refine seq_in ?_
  refine ops_in ?_
  refine sts_ok 1 (s' := ⟨[(4, (.d (.b false))), (0, (.d (.sl 3 (p0.map cGValue)))), (1, (.d (.sl 1 (p1.map cI))))], []⟩) (by kernel_rfl) ?_
  refine nil_in ?_
  refine next_in ?_
  refine seq_in ?_
  refine seq_in ?_
  refine ops_in ?_
  refine sts_ok 1 (s' := ⟨[(7, (.d (.sl 3 (p0.map cGValue)))), (4, (.d (.b false))), (0, (.d (.sl 3 (p0.map cGValue)))), (1, (.d (.sl 1 (p1.map cI))))], []⟩) (by kernel_rfl) ?_
  refine p_step (v' := (.d (.i .i64 (p0.length : Int)))) rfl rfl (vop_len (sz := 3) (l := p0) (f := cGValue) (by kernel_rfl) (by kernel_rfl)) ?_
  refine sts_ok 1 (s' := ⟨[(9, (.d (.sl 1 (p1.map cI)))), (8, (.d (.i .i64 (p0.length : Int)))), (7, (.d (.sl 3 (p0.map cGValue)))), (4, (.d (.b false))), (0, (.d (.sl 3 (p0.map cGValue)))), (1, (.d (.sl 1 (p1.map cI))))], []⟩) (by kernel_rfl) ?_
  refine p_step (v' := (.d (.i .i64 (p1.length : Int)))) rfl rfl (vop_len (sz := 1) (l := p1) (f := cI) (by kernel_rfl) (by kernel_rfl)) ?_
  refine sts_ok 1 (s' := ⟨[(11, (.d (.b (!decide ((p0.length : Int) = (p1.length : Int)))))), (10, (.d (.i .i64 (p1.length : Int)))), (9, (.d (.sl 1 (p1.map cI)))), (8, (.d (.i .i64 (p0.length : Int)))), (7, (.d (.sl 3 (p0.map cGValue)))), (4, (.d (.b false))), (0, (.d (.sl 3 (p0.map cGValue)))), (1, (.d (.sl 1 (p1.map cI))))], []⟩) (by kernel_rfl) ?_
  refine nil_in ?_
  refine next_in ?_
  refine cond_step h (by kernel_rfl) ?_ ?_
  · clear h; intro h
    refine seq_in ?_
    refine ops_in ?_
    refine sts_ok 1 (s' := ⟨[(4, (.d (.b false))), (11, (.d (.b (!decide ((p0.length : Int) = (p1.length : Int)))))), (10, (.d (.i .i64 (p1.length : Int)))), (9, (.d (.sl 1 (p1.map cI)))), (8, (.d (.i .i64 (p0.length : Int)))), (7, (.d (.sl 3 (p0.map cGValue)))), (4, (.d (.b false))), (0, (.d (.sl 3 (p0.map cGValue)))), (1, (.d (.sl 1 (p1.map cI))))], []⟩) (by kernel_rfl) ?_
    refine nil_in ?_
    refine next_in ?_
    refine ret_in ?_
    refine thenK_ret ?_
    have h := Option.some.inj h; subst h
    exact ret1_step (v := (.d (.b false))) (by kernel_rfl) (by kernel_rfl) (by kernel_rfl)
  · clear h; intro h
    refine skip_in ?_
    refine next_in ?_
    refine seq_in ?_
    refine seq_in ?_
    refine ops_in ?_
    refine sts_ok 1 (s' := ⟨[(12, (.d (.sl 3 (p0.map cGValue)))), (11, (.d (.b (!decide ((p0.length : Int) = (p1.length : Int)))))), (10, (.d (.i .i64 (p1.length : Int)))), (9, (.d (.sl 1 (p1.map cI)))), (8, (.d (.i .i64 (p0.length : Int)))), (7, (.d (.sl 3 (p0.map cGValue)))), (4, (.d (.b false))), (0, (.d (.sl 3 (p0.map cGValue)))), (1, (.d (.sl 1 (p1.map cI))))], []⟩) (by kernel_rfl) ?_
    refine p_step (v' := (.d (.i .i64 (p0.length : Int)))) rfl rfl (vop_len (sz := 3) (l := p0) (f := cGValue) (by kernel_rfl) (by kernel_rfl)) ?_
    refine sts_ok 1 (s' := ⟨[(14, (.d (.i .i64 0))), (13, (.d (.i .i64 (p0.length : Int)))), (12, (.d (.sl 3 (p0.map cGValue)))), (11, (.d (.b (!decide ((p0.length : Int) = (p1.length : Int)))))), (10, (.d (.i .i64 (p1.length : Int)))), (9, (.d (.sl 1 (p1.map cI)))), (8, (.d (.i .i64 (p0.length : Int)))), (7, (.d (.sl 3 (p0.map cGValue)))), (4, (.d (.b false))), (0, (.d (.sl 3 (p0.map cGValue)))), (1, (.d (.sl 1 (p1.map cI))))], []⟩) (by kernel_rfl) ?_
    refine nil_in ?_
    refine next_in ?_
    refine block_in ?_
    exact loop_go (s' := stiRowFits_L0 p1 p0 0) (wk_ren [] (by kernel_rfl) (er_cons (vr_same (by kernel_rfl) (by kernel_rfl)) (er_cons (vr_same (by kernel_rfl) (by kernel_rfl)) (er_cons (vr_same (by kernel_rfl) (by kernel_rfl)) (er_cons (vr_same (by kernel_rfl) (by kernel_rfl)) (er_nil))))) (br_nil)) (OK_iRowFits_L0 p1 p0 0 _ h)
theorem OK_iDbOk_1_x0 (p0 : (List GValue)) (c0_0 : (List Int)) : FOkB Try.prog 90 [(.d (.sl 3 (p0.map cGValue))), (.ptr 1000000 0)] [(1000000, [(.d (.sl 1 (c0_0.map cI)))])] (fun (y : Bool) => (.d (.b y))) (fun (y : Bool) => [(1000000, [(.d (.sl 1 (c0_0.map cI)))])]) (iDbOk_1_x0 p0 c0_0) := by
  intro r h
  rw [iDbOk_1_x0] at h
  refine acalls_of_fn triDbOk_1_x0 (Nat.le_of_ble_eq_true rfl) (by intro n hn; simp at hn; omega) ?_
  show avc Try.prog aciDbOk_1_x0 (qiDbOk_1_x0 c0_0 _) ⟨[(0, (.d (.sl 3 (p0.map cGValue)))), (1, (.ptr 1000000 0))], [(1000000, [(.d (.sl 1 (c0_0.map cI)))])]⟩
  delta aciDbOk_1_x0
  refine seq_in ?_
  refine ops_in ?_
  refine sts_ok 1 (s' := ⟨[(3, (.d (.b false))), (0, (.d (.sl 3 (p0.map cGValue)))), (1, (.ptr 1000000 0))], [(1000000, [(.d (.sl 1 (c0_0.map cI)))])]⟩) (by kernel_rfl) ?_
  refine nil_in ?_
  refine next_in ?_
  refine seq_in ?_
  refine ops_in ?_
  refine sts_ok 2 (s' := ⟨[(5, (.d (.sl 1 (c0_0.map cI)))), (4, (.d (.sl 3 (p0.map cGValue)))), (3, (.d (.b false))), (0, (.d (.sl 3 (p0.map cGValue)))), (1, (.ptr 1000000 0))], [(1000000, [(.d (.sl 1 (c0_0.map cI)))])]⟩) (by kernel_rfl) ?_
  refine call_step (m := iRowFits p0 c0_0) (args := [(.d (.sl 3 (p0.map cGValue))), (.d (.sl 1 (c0_0.map cI)))]) (v' := (fun y => (.d (.b y)))) h (OK_iRowFits p0 c0_0) (by kernel_rfl) (by kernel_rfl) (fun _ => rfl) ?_
  clear h; intro y1 h
  refine sts_ok 2 (s' := ⟨[(3, (.d (.b (!y1)))), (7, (.d (.b (!y1)))), (6, (.d (.b y1))), (5, (.d (.sl 1 (c0_0.map cI)))), (4, (.d (.sl 3 (p0.map cGValue)))), (3, (.d (.b false))), (0, (.d (.sl 3 (p0.map cGValue)))), (1, (.ptr 1000000 0))], [(1000000, [(.d (.sl 1 (c0_0.map cI)))])]⟩) (by kernel_rfl) ?_
  refine nil_in ?_
  refine next_in ?_
  refine ret_in ?_
  have h := Option.some.inj h; subst h
  exact ret1_step (v := (.d (.b (!y1)))) (by kernel_rfl) (by kernel_rfl) ⟨by kernel_rfl, by kernel_rfl, trivial⟩
theorem OKs_gSlices_IndexFunc_impl_Value_impl_Value_x0_L0 (p0 : (List (List GValue))) (c0_0 : (List Int)) : (∀ (x8 : Int) (r : Int), gSlices_IndexFunc_impl_Value_impl_Value_x0_L0 p0 c0_0 x8 = some r → avc Try.prog acgSlices_IndexFunc_impl_Value_impl_Value_x0_L0 (qgSlices_IndexFunc_impl_Value_impl_Value_x0_1 c0_0 r) (stgSlices_IndexFunc_impl_Value_impl_Value_x0_L0 p0 c0_0 x8)) := by
  refine gSlices_IndexFunc_impl_Value_impl_Value_x0_L0.partial_correctness p0 c0_0 (fun x8 r => avc Try.prog acgSlices_IndexFunc_impl_Value_impl_Value_x0_L0 (qgSlices_IndexFunc_impl_Value_impl_Value_x0_1 c0_0 r) (stgSlices_IndexFunc_impl_Value_impl_Value_x0_L0 p0 c0_0 x8)) ?_
  · intro F_gSlices_IndexFunc_impl_Value_impl_Value_x0_L0 OK_gSlices_IndexFunc_impl_Value_impl_Value_x0_L0 x8 r h
    delta acgSlices_IndexFunc_impl_Value_impl_Value_x0_L0
    refine loop_unroll ?_
    refine seq_in ?_
    refine ops_in ?_
    refine sts_ok 1 (s' := ⟨(9, (.d (.b (decide (x8 < (p0.length : Int)))))) :: (stgSlices_IndexFunc_impl_Value_impl_Value_x0_L0 p0 c0_0 x8).env, (stgSlices_IndexFunc_impl_Value_impl_Value_x0_L0 p0 c0_0 x8).bx⟩) (by kernel_rfl) ?_
    refine nil_in ?_
    refine next_in ?_
    refine seq_in ?_
    refine cond_step h (by kernel_rfl) ?_ ?_
    · clear h; intro h
      refine skip_in ?_
      refine next_in ?_
      refine seq_in ?_
      refine block_in ?_
      refine seq_in ?_
      refine ops_in ?_
      refine sts_ok 2 (s' := ⟨(5, (.d (.i .i64 x8))) :: (10, (.d (.i .i64 x8))) :: (9, (.d (.b (decide (x8 < (p0.length : Int)))))) :: (stgSlices_IndexFunc_impl_Value_impl_Value_x0_L0 p0 c0_0 x8).env, (stgSlices_IndexFunc_impl_Value_impl_Value_x0_L0 p0 c0_0 x8).bx⟩) (by kernel_rfl) ?_
      refine nil_in ?_
      refine next_in ?_
      refine seq_in ?_
      refine ops_in ?_
      refine sts_ok 3 (s' := ⟨(13, (.d (.i .i64 x8))) :: (12, (.d (.sl 1 (p0.map (cSl 3 cGValue))))) :: (11, (.fn 90 [(.ptr 1000000 0)])) :: (5, (.d (.i .i64 x8))) :: (10, (.d (.i .i64 x8))) :: (9, (.d (.b (decide (x8 < (p0.length : Int)))))) :: (stgSlices_IndexFunc_impl_Value_impl_Value_x0_L0 p0 c0_0 x8).env, (stgSlices_IndexFunc_impl_Value_impl_Value_x0_L0 p0 c0_0 x8).bx⟩) (by kernel_rfl) ?_
      refine v_step (m := idx p0 x8) (v' := fun y => (.rp [(.sl 3 (y.map cGValue))])) h rfl rfl (fun y hy => vop_ia (l := p0) (f := (cSl 3 cGValue)) (g := (cSl 3 cGValue)) (k := .i64) hy (fun _ => rfl) (by kernel_rfl) (by kernel_rfl) (by kernel_rfl)) ?_
      clear h; intro y1 h
      refine sts_ok 1 (s' := ⟨(15, (.d (.sl 3 (y1.map cGValue)))) :: (14, (.rp [(.sl 3 (y1.map cGValue))])) :: (13, (.d (.i .i64 x8))) :: (12, (.d (.sl 1 (p0.map (cSl 3 cGValue))))) :: (11, (.fn 90 [(.ptr 1000000 0)])) :: (5, (.d (.i .i64 x8))) :: (10, (.d (.i .i64 x8))) :: (9, (.d (.b (decide (x8 < (p0.length : Int)))))) :: (stgSlices_IndexFunc_impl_Value_impl_Value_x0_L0 p0 c0_0 x8).env, (stgSlices_IndexFunc_impl_Value_impl_Value_x0_L0 p0 c0_0 x8).bx⟩) (by kernel_rfl) ?_
      refine callvg_step ⟨[(1000000, 1000000)], [], [], [], [], [], [], []⟩ (m := iDbOk_1_x0 y1 c0_0) (caps := [(.ptr 1000000 0)]) (S' := fun (y : Bool) => ⟨(16, (.d (.b y))) :: (15, (.d (.sl 3 (y1.map cGValue)))) :: (14, (.rp [(.sl 3 (y1.map cGValue))])) :: (13, (.d (.i .i64 x8))) :: (12, (.d (.sl 1 (p0.map (cSl 3 cGValue))))) :: (11, (.fn 90 [(.ptr 1000000 0)])) :: (5, (.d (.i .i64 x8))) :: (10, (.d (.i .i64 x8))) :: (9, (.d (.b (decide (x8 < (p0.length : Int)))))) :: (stgSlices_IndexFunc_impl_Value_impl_Value_x0_L0 p0 c0_0 x8).env, [(1000000, [(.d (.sl 1 (c0_0.map cI)))])]⟩) h (OK_iDbOk_1_x0 y1 c0_0) (by kernel_rfl) (by kernel_rfl) (by kernel_rfl) (by kernel_rfl) (by kernel_rfl) (by kernel_rfl) (fun y => by kernel_rfl) (fun y => by kernel_rfl) ?_
      clear h; intro y2 h
      refine nil_in ?_
      refine next_in ?_
      refine cond_step h (by kernel_rfl) ?_ ?_
      · clear h; intro h
        refine seq_in ?_
        refine ops_in ?_
        refine sts_ok 2 (s' := ⟨(4, (.d (.i .i64 x8))) :: (17, (.d (.i .i64 x8))) :: (16, (.d (.b y2))) :: (15, (.d (.sl 3 (y1.map cGValue)))) :: (14, (.rp [(.sl 3 (y1.map cGValue))])) :: (13, (.d (.i .i64 x8))) :: (12, (.d (.sl 1 (p0.map (cSl 3 cGValue))))) :: (11, (.fn 90 [(.ptr 1000000 0)])) :: (5, (.d (.i .i64 x8))) :: (10, (.d (.i .i64 x8))) :: (9, (.d (.b (decide (x8 < (p0.length : Int)))))) :: (stgSlices_IndexFunc_impl_Value_impl_Value_x0_L0 p0 c0_0 x8).env, [(1000000, [(.d (.sl 1 (c0_0.map cI)))])]⟩) (by kernel_rfl) ?_
        refine nil_in ?_
        refine next_in ?_
        refine ret_in ?_
        refine blockK_ret ?_
        refine thenK_ret ?_
        refine thenK_ret ?_
        refine blockK_ret ?_
        refine thenK_ret ?_
        have h := Option.some.inj h; subst h
        exact ret1_step (v := (.d (.i .i64 x8))) (by kernel_rfl) (by kernel_rfl) ⟨by kernel_rfl, by kernel_rfl, trivial⟩
      · clear h; intro h
        refine skip_in ?_
        refine blockK_norm ?_
        refine next_in ?_
        refine ops_in ?_
        refine sts_ok 2 (s' := ⟨(8, (.d (.i .i64 (IntKind.wrap .i64 (x8 + 1))))) :: (18, (.d (.i .i64 (IntKind.wrap .i64 (x8 + 1))))) :: (16, (.d (.b y2))) :: (15, (.d (.sl 3 (y1.map cGValue)))) :: (14, (.rp [(.sl 3 (y1.map cGValue))])) :: (13, (.d (.i .i64 x8))) :: (12, (.d (.sl 1 (p0.map (cSl 3 cGValue))))) :: (11, (.fn 90 [(.ptr 1000000 0)])) :: (5, (.d (.i .i64 x8))) :: (10, (.d (.i .i64 x8))) :: (9, (.d (.b (decide (x8 < (p0.length : Int)))))) :: (stgSlices_IndexFunc_impl_Value_impl_Value_x0_L0 p0 c0_0 x8).env, [(1000000, [(.d (.sl 1 (c0_0.map cI)))])]⟩) (by kernel_rfl) ?_
        refine nil_in ?_
        exact loop_back (s' := stgSlices_IndexFunc_impl_Value_impl_Value_x0_L0 p0 c0_0 (IntKind.wrap .i64 (x8 + 1))) (wk_ren [] (by kernel_rfl) (er_cons (vr_same (by kernel_rfl) (by kernel_rfl)) (er_cons (vr_same (by kernel_rfl) (by kernel_rfl)) (er_cons (vr_same (by kernel_rfl) (by kernel_rfl)) (er_cons (vr_same (by kernel_rfl) (by kernel_rfl)) (er_nil))))) (br_same (by kernel_rfl) (by kernel_rfl) (br_nil))) (OK_gSlices_IndexFunc_impl_Value_impl_Value_x0_L0 (IntKind.wrap .i64 (x8 + 1)) _ h)
    · clear h; intro h
      refine exit_in ?_
      refine thenK_exit ?_
      refine thenK_exit ?_
      refine blockK_here ?_
      refine next_in ?_
      refine seq_in ?_
      refine ops_in ?_
      refine sts_ok 1 (s' := ⟨(4, (.d (.i .i64 (-1)))) :: (9, (.d (.b (decide (x8 < (p0.length : Int)))))) :: (stgSlices_IndexFunc_impl_Value_impl_Value_x0_L0 p0 c0_0 x8).env, (stgSlices_IndexFunc_impl_Value_impl_Value_x0_L0 p0 c0_0 x8).bx⟩) (by kernel_rfl) ?_
      refine nil_in ?_
      refine next_in ?_
      refine ret_in ?_
      have h := Option.some.inj h; subst h
      exact ret1_step (v := (.d (.i .i64 (-1)))) (by kernel_rfl) (by kernel_rfl) ⟨by kernel_rfl, by kernel_rfl, trivial⟩
theorem OK_gSlices_IndexFunc_impl_Value_impl_Value_x0_L0 (p0 : (List (List GValue))) (c0_0 : (List Int)) (x8 : Int) (r : Int) (h : gSlices_IndexFunc_impl_Value_impl_Value_x0_L0 p0 c0_0 x8 = some r) : avc Try.prog acgSlices_IndexFunc_impl_Value_impl_Value_x0_L0 (qgSlices_IndexFunc_impl_Value_impl_Value_x0_1 c0_0 r) (stgSlices_IndexFunc_impl_Value_impl_Value_x0_L0 p0 c0_0 x8) := (OKs_gSlices_IndexFunc_impl_Value_impl_Value_x0_L0 p0 c0_0) x8 r h
theorem OK_gSlices_IndexFunc_impl_Value_impl_Value_x0 (p0 : (List (List GValue))) (c0_0 : (List Int)) : FOkB Try.prog 163 [(.d (.sl 1 (p0.map (cSl 3 cGValue)))), (.fn 90 [(.ptr 1000000 0)])] [(1000000, [(.d (.sl 1 (c0_0.map cI)))])] (fun (y : Int) => (.d (.i .i64 y))) (fun (y : Int) => [(1000000, [(.d (.sl 1 (c0_0.map cI)))])]) (gSlices_IndexFunc_impl_Value_impl_Value_x0 p0 c0_0) := by
  intro r h
  rw [gSlices_IndexFunc_impl_Value_impl_Value_x0] at h
  refine acalls_of_fn trgSlices_IndexFunc_impl_Value_impl_Value_x0 (Nat.le_of_ble_eq_true rfl) (by intro n hn; simp at hn; omega) ?_
  show avc Try.prog acgSlices_IndexFunc_impl_Value_impl_Value_x0 (qgSlices_IndexFunc_impl_Value_impl_Value_x0 c0_0 _) ⟨[(0, (.d (.sl 1 (p0.map (cSl 3 cGValue))))), (1, (.fn 90 [(.ptr 1000000 0)]))], [(1000000, [(.d (.sl 1 (c0_0.map cI)))])]⟩
  delta acgSlices_IndexFunc_impl_Value_impl_Value_x0
  refine seq_in ?_
  refine ops_in ?_
  refine sts_ok 1 (s' := ⟨[(4, (.d (.i .i64 0))), (0, (.d (.sl 1 (p0.map (cSl 3 cGValue))))), (1, (.fn 90 [(.ptr 1000000 0)]))], [(1000000, [(.d (.sl 1 (c0_0.map cI)))])]⟩) (by kernel_rfl) ?_
  refine nil_in ?_
  refine next_in ?_
  refine seq_in ?_
  refine seq_in ?_
  refine ops_in ?_
  refine sts_ok 1 (s' := ⟨[(6, (.d (.sl 1 (p0.map (cSl 3 cGValue))))), (4, (.d (.i .i64 0))), (0, (.d (.sl 1 (p0.map (cSl 3 cGValue))))), (1, (.fn 90 [(.ptr 1000000 0)]))], [(1000000, [(.d (.sl 1 (c0_0.map cI)))])]⟩) (by kernel_rfl) ?_
  refine p_step (v' := (.d (.i .i64 (p0.length : Int)))) rfl rfl (vop_len (sz := 1) (l := p0) (f := (cSl 3 cGValue)) (by kernel_rfl) (by kernel_rfl)) ?_
  refine sts_ok 1 (s' := ⟨[(8, (.d (.i .i64 0))), (7, (.d (.i .i64 (p0.length : Int)))), (6, (.d (.sl 1 (p0.map (cSl 3 cGValue))))), (4, (.d (.i .i64 0))), (0, (.d (.sl 1 (p0.map (cSl 3 cGValue))))), (1, (.fn 90 [(.ptr 1000000 0)]))], [(1000000, [(.d (.sl 1 (c0_0.map cI)))])]⟩) (by kernel_rfl) ?_
  refine nil_in ?_
  refine next_in ?_
  refine block_in ?_
  exact loop_go (s' := stgSlices_IndexFunc_impl_Value_impl_Value_x0_L0 p0 c0_0 0) (wk_ren [] (by kernel_rfl) (er_cons (vr_same (by kernel_rfl) (by kernel_rfl)) (er_cons (vr_same (by kernel_rfl) (by kernel_rfl)) (er_cons (vr_same (by kernel_rfl) (by kernel_rfl)) (er_cons (vr_same (by kernel_rfl) (by kernel_rfl)) (er_nil))))) (br_same (by kernel_rfl) (by kernel_rfl) (br_nil))) (OK_gSlices_IndexFunc_impl_Value_impl_Value_x0_L0 p0 c0_0 0 _ h)
theorem OK_gSlices_ContainsFunc_impl_Value_impl_Value_x0 (p0 : (List (List GValue))) (c0_0 : (List Int)) : FOkB Try.prog 89 [(.d (.sl 1 (p0.map (cSl 3 cGValue)))), (.fn 90 [(.ptr 1000000 0)])] [(1000000, [(.d (.sl 1 (c0_0.map cI)))])] (fun (y : Bool) => (.d (.b y))) (fun (y : Bool) => [(1000000, [(.d (.sl 1 (c0_0.map cI)))])]) (gSlices_ContainsFunc_impl_Value_impl_Value_x0 p0 c0_0) := by
  intro r h
  rw [gSlices_ContainsFunc_impl_Value_impl_Value_x0] at h
  refine acalls_of_fn trgSlices_ContainsFunc_impl_Value_impl_Value_x0 (Nat.le_of_ble_eq_true rfl) (by intro n hn; simp at hn; omega) ?_
  show avc Try.prog acgSlices_ContainsFunc_impl_Value_impl_Value_x0 (qgSlices_ContainsFunc_impl_Value_impl_Value_x0 c0_0 _) ⟨[(0, (.d (.sl 1 (p0.map (cSl 3 cGValue))))), (1, (.fn 90 [(.ptr 1000000 0)]))], [(1000000, [(.d (.sl 1 (c0_0.map cI)))])]⟩
  delta acgSlices_ContainsFunc_impl_Value_impl_Value_x0
  refine seq_in ?_
  refine ops_in ?_
  refine sts_ok 1 (s' := ⟨[(4, (.d (.b false))), (0, (.d (.sl 1 (p0.map (cSl 3 cGValue))))), (1, (.fn 90 [(.ptr 1000000 0)]))], [(1000000, [(.d (.sl 1 (c0_0.map cI)))])]⟩) (by kernel_rfl) ?_
  refine nil_in ?_
  refine next_in ?_
  refine seq_in ?_
  refine ops_in ?_
  refine sts_ok 2 (s' := ⟨[(6, (.fn 90 [(.ptr 1000000 0)])), (5, (.d (.sl 1 (p0.map (cSl 3 cGValue))))), (4, (.d (.b false))), (0, (.d (.sl 1 (p0.map (cSl 3 cGValue))))), (1, (.fn 90 [(.ptr 1000000 0)]))], [(1000000, [(.d (.sl 1 (c0_0.map cI)))])]⟩) (by kernel_rfl) ?_
  refine callg_step ⟨[(1000000, 1000000)], [], [], [], [], [], [], []⟩ (m := gSlices_IndexFunc_impl_Value_impl_Value_x0 p0 c0_0) (S' := fun (y : Int) => ⟨[(7, (.d (.i .i64 y))), (6, (.fn 90 [(.ptr 1000000 0)])), (5, (.d (.sl 1 (p0.map (cSl 3 cGValue))))), (4, (.d (.b false))), (0, (.d (.sl 1 (p0.map (cSl 3 cGValue))))), (1, (.fn 90 [(.ptr 1000000 0)]))], [(1000000, [(.d (.sl 1 (c0_0.map cI)))])]⟩) h (OK_gSlices_IndexFunc_impl_Value_impl_Value_x0 p0 c0_0) (by kernel_rfl) (by kernel_rfl) (by kernel_rfl) (by kernel_rfl) (fun y => by kernel_rfl) (fun y => by kernel_rfl) ?_
  clear h; intro y1 h
  refine sts_ok 2 (s' := ⟨[(4, (.d (.b (decide (0 ≤ y1))))), (8, (.d (.b (decide (0 ≤ y1))))), (7, (.d (.i .i64 y1))), (6, (.fn 90 [(.ptr 1000000 0)])), (5, (.d (.sl 1 (p0.map (cSl 3 cGValue))))), (4, (.d (.b false))), (0, (.d (.sl 1 (p0.map (cSl 3 cGValue))))), (1, (.fn 90 [(.ptr 1000000 0)]))], [(1000000, [(.d (.sl 1 (c0_0.map cI)))])]⟩) (by kernel_rfl) ?_
  refine nil_in ?_
  refine next_in ?_
  refine ret_in ?_
  have h := Option.some.inj h; subst h
  exact ret1_step (v := (.d (.b (decide (0 ≤ y1))))) (by kernel_rfl) (by kernel_rfl) ⟨by kernel_rfl, by kernel_rfl, trivial⟩
theorem OKs_iTypesOf_L0 (p0 : GTable) : (∀ (x3 : (List Int)) (x10 : Int) (r : (List Int)), iTypesOf_L0 p0 x3 x10 = some r → avc Try.prog aciTypesOf_L0 (qiTypesOf_1 r) (stiTypesOf_L0 p0 x3 x10)) := by
  refine iTypesOf_L0.partial_correctness p0 (fun x3 x10 r => avc Try.prog aciTypesOf_L0 (qiTypesOf_1 r) (stiTypesOf_L0 p0 x3 x10)) ?_
  · intro F_iTypesOf_L0 OK_iTypesOf_L0 x3 x10 r h
    delta aciTypesOf_L0
    refine loop_unroll ?_
    refine seq_in ?_
    refine ops_in ?_
    refine sts_ok 1 (s' := ⟨(11, (.d (.b (decide (x10 < (p0.cols.length : Int)))))) :: (stiTypesOf_L0 p0 x3 x10).env, (stiTypesOf_L0 p0 x3 x10).bx⟩) (by kernel_rfl) ?_
    refine nil_in ?_
    refine next_in ?_
    refine seq_in ?_
    refine cond_step h (by kernel_rfl) ?_ ?_
    · clear h; intro h
      refine skip_in ?_
      refine next_in ?_
      refine seq_in ?_
      refine block_in ?_
      refine seq_in ?_
      refine ops_in ?_
      refine v_step (m := idx p0.cols x10) (v' := fun y => (.rp [(.s (bs y.name)), (.i .i64 y.type)])) h rfl rfl (fun y hy => vop_ia (l := p0.cols) (f := cGCol) (g := cGCol) (k := .i64) hy (fun _ => rfl) (by kernel_rfl) (by kernel_rfl) (by kernel_rfl)) ?_
      clear h; intro y1 h
      refine sts_ok 3 (s' := ⟨(5, (.ptr 5 0)) :: (13, (vGCol y1)) :: (12, (.rp [(.s (bs y1.name)), (.i .i64 y1.type)])) :: (11, (.d (.b (decide (x10 < (p0.cols.length : Int)))))) :: (stiTypesOf_L0 p0 x3 x10).env, [(5, [(.d (.s (bs y1.name))), (.d (.i .i64 y1.type))])]⟩) (by kernel_rfl) ?_
      refine nil_in ?_
      refine next_in ?_
      refine ops_in ?_
      refine sts_ok 3 (s' := ⟨(16, (.d (.i .i64 y1.type))) :: (15, (.ptr 5 1)) :: (14, (.osl 3 3 1 (x3.map cI))) :: (5, (.ptr 5 0)) :: (13, (vGCol y1)) :: (12, (.rp [(.s (bs y1.name)), (.i .i64 y1.type)])) :: (11, (.d (.b (decide (x10 < (p0.cols.length : Int)))))) :: (stiTypesOf_L0 p0 x3 x10).env, [(5, [(.d (.s (bs y1.name))), (.d (.i .i64 y1.type))])]⟩) (by kernel_rfl) ?_
      refine bsl_step (l := ([y1.type] : List Int)) (f := cI) (g := cI) (by kernel_rfl) (fun _ => rfl) (by kernel_rfl) ?_
      refine app_step (t := 3) (l := x3) (m := ([y1.type] : List Int)) (f := cI) (S' := fun y => ⟨[(18, (.osl 18 3 1 (y.map cI))), (17, (.osl 17 3 1 (([y1.type] : List Int).map cI))), (16, (.d (.i .i64 y1.type))), (15, (.ptr 5 1)), (14, (.d (.sl 1 (x3.map cI)))), (5, (.ptr 5 0)), (13, (vGCol y1)), (12, (.rp [(.s (bs y1.name)), (.i .i64 y1.type)])), (11, (.d (.b (decide (x10 < (p0.cols.length : Int)))))), (3, (.d (.sl 1 (x3.map cI)))), (8, (.d (.sl 2 (p0.cols.map cGCol)))), (9, (.d (.i .i64 (p0.cols.length : Int)))), (10, (.d (.i .i64 x10)))], [(5, [(.d (.s (bs y1.name))), (.d (.i .i64 y1.type))])]⟩) h (by kernel_rfl) (by kernel_rfl) (by kernel_rfl) (by kernel_rfl) (fun y => by kernel_rfl) ?_
      clear h; intro y2 h
      refine sts_ok 1 (s' := ⟨[(3, (.osl 3 3 1 (y2.map cI))), (18, (.d (.sl 1 (y2.map cI)))), (17, (.osl 17 3 1 (([y1.type] : List Int).map cI))), (16, (.d (.i .i64 y1.type))), (15, (.ptr 5 1)), (14, (.d (.sl 1 (x3.map cI)))), (5, (.ptr 5 0)), (13, (vGCol y1)), (12, (.rp [(.s (bs y1.name)), (.i .i64 y1.type)])), (11, (.d (.b (decide (x10 < (p0.cols.length : Int)))))), (3, (.d (.sl 1 (x3.map cI)))), (8, (.d (.sl 2 (p0.cols.map cGCol)))), (9, (.d (.i .i64 (p0.cols.length : Int)))), (10, (.d (.i .i64 x10)))], [(5, [(.d (.s (bs y1.name))), (.d (.i .i64 y1.type))])]⟩) (by kernel_rfl) ?_
      refine nil_in ?_
      refine blockK_norm ?_
      refine next_in ?_
      refine ops_in ?_
      refine sts_ok 2 (s' := ⟨[(10, (.d (.i .i64 (IntKind.wrap .i64 (x10 + 1))))), (19, (.d (.i .i64 (IntKind.wrap .i64 (x10 + 1))))), (3, (.osl 3 3 1 (y2.map cI))), (18, (.d (.sl 1 (y2.map cI)))), (17, (.osl 17 3 1 (([y1.type] : List Int).map cI))), (16, (.d (.i .i64 y1.type))), (15, (.ptr 5 1)), (14, (.d (.sl 1 (x3.map cI)))), (5, (.ptr 5 0)), (13, (vGCol y1)), (12, (.rp [(.s (bs y1.name)), (.i .i64 y1.type)])), (11, (.d (.b (decide (x10 < (p0.cols.length : Int)))))), (3, (.d (.sl 1 (x3.map cI)))), (8, (.d (.sl 2 (p0.cols.map cGCol)))), (9, (.d (.i .i64 (p0.cols.length : Int)))), (10, (.d (.i .i64 x10)))], [(5, [(.d (.s (bs y1.name))), (.d (.i .i64 y1.type))])]⟩) (by kernel_rfl) ?_
      refine nil_in ?_
      exact loop_back (s' := stiTypesOf_L0 p0 y2 (IntKind.wrap .i64 (x10 + 1))) (wk_ren [(3, .old 3)] (by kernel_rfl) (er_cons (vr_old (t := 3) (by kernel_rfl) (by kernel_rfl)) (er_cons (vr_same (by kernel_rfl) (by kernel_rfl)) (er_cons (vr_same (by kernel_rfl) (by kernel_rfl)) (er_cons (vr_same (by kernel_rfl) (by kernel_rfl)) (er_nil))))) (br_nil)) (OK_iTypesOf_L0 y2 (IntKind.wrap .i64 (x10 + 1)) _ h)
    · clear h; intro h
      refine exit_in ?_
      refine thenK_exit ?_
      refine thenK_exit ?_
      refine blockK_here ?_
      refine next_in ?_
      refine seq_in ?_
      refine ops_in ?_
      refine sts_ok 2 (s' := ⟨[(2, (.osl 2 3 1 (x3.map cI))), (20, (.d (.sl 1 (x3.map cI)))), (11, (.d (.b (decide (x10 < (p0.cols.length : Int)))))), (3, (.d (.sl 1 (x3.map cI)))), (8, (.d (.sl 2 (p0.cols.map cGCol)))), (9, (.d (.i .i64 (p0.cols.length : Int)))), (10, (.d (.i .i64 x10)))], []⟩) (by kernel_rfl) ?_
      refine nil_in ?_
      refine next_in ?_
      refine ret_wk (s' := ⟨[(2, (.osl 2000000 3 1 (x3.map cI)))], []⟩) (wk_ren [(2000000, .old 2)] (by kernel_rfl) (er_cons (vr_old (t := 2) (by kernel_rfl) (by kernel_rfl)) (er_nil)) (br_nil)) ?_
      have h := Option.some.inj h; subst h
      exact ret1_step (v := (.osl 2000000 3 1 (x3.map cI))) (by kernel_rfl) (by kernel_rfl) ⟨by kernel_rfl, trivial⟩
theorem OK_iTypesOf_L0 (p0 : GTable) (x3 : (List Int)) (x10 : Int) (r : (List Int)) (h : iTypesOf_L0 p0 x3 x10 = some r) : avc Try.prog aciTypesOf_L0 (qiTypesOf_1 r) (stiTypesOf_L0 p0 x3 x10) := (OKs_iTypesOf_L0 p0) x3 x10 r h
theorem OK_iTypesOf (p0 : GTable) : FOkB Try.prog 88 [(vGTable p0)] [] (fun (y : (List Int)) => (.osl 2000000 3 1 (y.map cI))) (fun (y : (List Int)) => []) (iTypesOf p0) := by
  intro r h
  rw [iTypesOf] at h
  refine acalls_of_fn triTypesOf (Nat.le_of_ble_eq_true rfl) (by simp) ?_
  show avc Try.prog aciTypesOf (qiTypesOf _) ⟨[(0, (vGTable p0))], []⟩
  delta aciTypesOf
  refine seq_in ?_
  refine ops_in ?_
  refine sts_ok 2 (s' := ⟨[(2, (.nil 1)), (1, (.ptr 1 0)), (0, (vGTable p0))], [(1, [(.d (.s (bs p0.name))), (.d (.sl 2 (p0.cols.map cGCol)))])]⟩) (by kernel_rfl) ?_
  refine nil_in ?_
  refine next_in ?_
  refine seq_in ?_
  refine ops_in ?_
  refine bsl_step (l := ([] : List Int)) (f := cI) (g := cI) (by kernel_rfl) (fun _ => rfl) (by kernel_rfl) ?_
  refine sts_ok 1 (s' := ⟨[(3, (.osl 3 3 1 (([] : List Int).map cI))), (6, (.d (.sl 1 (([] : List Int).map cI)))), (2, (.nil 1)), (1, (.ptr 1 0)), (0, (vGTable p0))], [(1, [(.d (.s (bs p0.name))), (.d (.sl 2 (p0.cols.map cGCol)))])]⟩) (by kernel_rfl) ?_
  refine nil_in ?_
  refine next_in ?_
  refine seq_in ?_
  refine seq_in ?_
  refine ops_in ?_
  refine sts_ok 2 (s' := ⟨[(8, (.d (.sl 2 (p0.cols.map cGCol)))), (7, (.ptr 1 1)), (3, (.osl 3 3 1 (([] : List Int).map cI))), (6, (.d (.sl 1 (([] : List Int).map cI)))), (2, (.nil 1)), (1, (.ptr 1 0)), (0, (vGTable p0))], [(1, [(.d (.s (bs p0.name))), (.d (.sl 2 (p0.cols.map cGCol)))])]⟩) (by kernel_rfl) ?_
  refine p_step (v' := (.d (.i .i64 (p0.cols.length : Int)))) rfl rfl (vop_len (sz := 2) (l := p0.cols) (f := cGCol) (by kernel_rfl) (by kernel_rfl)) ?_
  refine sts_ok 1 (s' := ⟨[(10, (.d (.i .i64 0))), (9, (.d (.i .i64 (p0.cols.length : Int)))), (8, (.d (.sl 2 (p0.cols.map cGCol)))), (7, (.ptr 1 1)), (3, (.osl 3 3 1 (([] : List Int).map cI))), (6, (.d (.sl 1 (([] : List Int).map cI)))), (2, (.nil 1)), (1, (.ptr 1 0)), (0, (vGTable p0))], [(1, [(.d (.s (bs p0.name))), (.d (.sl 2 (p0.cols.map cGCol)))])]⟩) (by kernel_rfl) ?_
  refine nil_in ?_
  refine next_in ?_
  refine block_in ?_
  exact loop_go (s' := stiTypesOf_L0 p0 ([] : List Int) 0) (wk_ren [(3, .old 3)] (by kernel_rfl) (er_cons (vr_old (t := 3) (by kernel_rfl) (by kernel_rfl)) (er_cons (vr_same (by kernel_rfl) (by kernel_rfl)) (er_cons (vr_same (by kernel_rfl) (by kernel_rfl)) (er_cons (vr_same (by kernel_rfl) (by kernel_rfl)) (er_nil))))) (br_nil)) (OK_iTypesOf_L0 p0 ([] : List Int) 0 _ h)
theorem OKs_iDbOk_L0 (p1 : GDb) (p0 : GCatalog) : (∀ (x23 : Int) (r : Bool), iDbOk_L0 p1 p0 x23 = some r → avc Try.prog aciDbOk_L0 (qiDbOk_1 r) (stiDbOk_L0 p1 p0 x23)) := by
  refine iDbOk_L0.partial_correctness p1 p0 (fun x23 r => avc Try.prog aciDbOk_L0 (qiDbOk_1 r) (stiDbOk_L0 p1 p0 x23)) ?_
  · intro F_iDbOk_L0 OK_iDbOk_L0 x23 r h
    delta aciDbOk_L0
    refine loop_unroll ?_
    refine seq_in ?_
    refine ops_in ?_
    refine sts_ok 1 (s' := ⟨(24, (.d (.b (decide (x23 < (p1.tables.length : Int)))))) :: (stiDbOk_L0 p1 p0 x23).env, (stiDbOk_L0 p1 p0 x23).bx⟩) (by kernel_rfl) ?_
    refine nil_in ?_
    refine next_in ?_
    refine seq_in ?_
    refine cond_step h (by kernel_rfl) ?_ ?_
    · clear h; intro h
      refine skip_in ?_
      refine next_in ?_
      refine seq_in ?_
      refine block_in ?_
      refine seq_in ?_
      refine ops_in ?_
      refine sts_ok 1 (s' := ⟨(25, (.d (.i .i64 x23))) :: (24, (.d (.b (decide (x23 < (p1.tables.length : Int)))))) :: (stiDbOk_L0 p1 p0 x23).env, (stiDbOk_L0 p1 p0 x23).bx⟩) (by kernel_rfl) ?_
      refine v_step (m := idx p1.tables x23) (v' := fun y => (.rp [(.sl 1 (y.rows.map (cSl 3 cGValue)))])) h rfl rfl (fun y hy => vop_ia (l := p1.tables) (f := cGData) (g := cGData) (k := .i64) hy (fun _ => rfl) (by kernel_rfl) (by kernel_rfl) (by kernel_rfl)) ?_
      clear h; intro y2 h
      refine sts_ok 4 (s' := ⟨(5, (.d (.i .i64 x23))) :: (6, (.ptr 6 0)) :: (27, (vGData y2)) :: (26, (.rp [(.sl 1 (y2.rows.map (cSl 3 cGValue)))])) :: (25, (.d (.i .i64 x23))) :: (24, (.d (.b (decide (x23 < (p1.tables.length : Int)))))) :: (stiDbOk_L0 p1 p0 x23).env, [(6, [(.d (.sl 1 (y2.rows.map (cSl 3 cGValue))))]), (2, [(.d (.sl 2 (p0.tables.map cGTable)))])]⟩) (by kernel_rfl) ?_
      refine nil_in ?_
      refine next_in ?_
      refine seq_in ?_
      refine ops_in ?_
      refine sts_ok 3 (s' := ⟨(30, (.d (.i .i64 x23))) :: (29, (.d (.sl 2 (p0.tables.map cGTable)))) :: (28, (.ptr 2 0)) :: (5, (.d (.i .i64 x23))) :: (6, (.ptr 6 0)) :: (27, (vGData y2)) :: (26, (.rp [(.sl 1 (y2.rows.map (cSl 3 cGValue)))])) :: (25, (.d (.i .i64 x23))) :: (24, (.d (.b (decide (x23 < (p1.tables.length : Int)))))) :: (stiDbOk_L0 p1 p0 x23).env, [(6, [(.d (.sl 1 (y2.rows.map (cSl 3 cGValue))))]), (2, [(.d (.sl 2 (p0.tables.map cGTable)))])]⟩) (by kernel_rfl) ?_
      refine v_step (m := idx p0.tables x23) (v' := fun y => (.rp [(.s (bs y.name)), (.sl 2 (y.cols.map cGCol))])) h rfl rfl (fun y hy => vop_ia (l := p0.tables) (f := cGTable) (g := cGTable) (k := .i64) hy (fun _ => rfl) (by kernel_rfl) (by kernel_rfl) (by kernel_rfl)) ?_
      clear h; intro y3 h
      refine sts_ok 1 (s' := ⟨(32, (vGTable y3)) :: (31, (.rp [(.s (bs y3.name)), (.sl 2 (y3.cols.map cGCol))])) :: (30, (.d (.i .i64 x23))) :: (29, (.d (.sl 2 (p0.tables.map cGTable)))) :: (28, (.ptr 2 0)) :: (5, (.d (.i .i64 x23))) :: (6, (.ptr 6 0)) :: (27, (vGData y2)) :: (26, (.rp [(.sl 1 (y2.rows.map (cSl 3 cGValue)))])) :: (25, (.d (.i .i64 x23))) :: (24, (.d (.b (decide (x23 < (p1.tables.length : Int)))))) :: (stiDbOk_L0 p1 p0 x23).env, [(6, [(.d (.sl 1 (y2.rows.map (cSl 3 cGValue))))]), (2, [(.d (.sl 2 (p0.tables.map cGTable)))])]⟩) (by kernel_rfl) ?_
      refine callg_step ⟨[], [], [], [], [], [(2000000, 33)], [], [33]⟩ (m := iTypesOf y3) (S' := fun (y : (List Int)) => ⟨(33, (.osl 33 3 1 (y.map cI))) :: (32, (vGTable y3)) :: (31, (.rp [(.s (bs y3.name)), (.sl 2 (y3.cols.map cGCol))])) :: (30, (.d (.i .i64 x23))) :: (29, (.d (.sl 2 (p0.tables.map cGTable)))) :: (28, (.ptr 2 0)) :: (5, (.d (.i .i64 x23))) :: (6, (.ptr 6 0)) :: (27, (vGData y2)) :: (26, (.rp [(.sl 1 (y2.rows.map (cSl 3 cGValue)))])) :: (25, (.d (.i .i64 x23))) :: (24, (.d (.b (decide (x23 < (p1.tables.length : Int)))))) :: (stiDbOk_L0 p1 p0 x23).env, [(6, [(.d (.sl 1 (y2.rows.map (cSl 3 cGValue))))]), (2, [(.d (.sl 2 (p0.tables.map cGTable)))])]⟩) h (OK_iTypesOf y3) (by kernel_rfl) (by kernel_rfl) (by kernel_rfl) (by kernel_rfl) (fun y => by kernel_rfl) (fun y => by kernel_rfl) ?_
      clear h; intro y4 h
      refine sts_ok 2 (s' := ⟨(7, (.ptr 7 0)) :: (33, (.osl 33 3 1 (y4.map cI))) :: (32, (vGTable y3)) :: (31, (.rp [(.s (bs y3.name)), (.sl 2 (y3.cols.map cGCol))])) :: (30, (.d (.i .i64 x23))) :: (29, (.d (.sl 2 (p0.tables.map cGTable)))) :: (28, (.ptr 2 0)) :: (5, (.d (.i .i64 x23))) :: (6, (.ptr 6 0)) :: (27, (vGData y2)) :: (26, (.rp [(.sl 1 (y2.rows.map (cSl 3 cGValue)))])) :: (25, (.d (.i .i64 x23))) :: (24, (.d (.b (decide (x23 < (p1.tables.length : Int)))))) :: (stiDbOk_L0 p1 p0 x23).env, [(7, [(.osl 33 3 1 (y4.map cI))]), (6, [(.d (.sl 1 (y2.rows.map (cSl 3 cGValue))))]), (2, [(.d (.sl 2 (p0.tables.map cGTable)))])]⟩) (by kernel_rfl) ?_
      refine nil_in ?_
      refine next_in ?_
      refine seq_in ?_
      refine ops_in ?_
      refine sts_ok 2 (s' := ⟨(35, (.d (.sl 1 (y2.rows.map (cSl 3 cGValue))))) :: (34, (.ptr 6 0)) :: (7, (.ptr 7 0)) :: (33, (.osl 33 3 1 (y4.map cI))) :: (32, (vGTable y3)) :: (31, (.rp [(.s (bs y3.name)), (.sl 2 (y3.cols.map cGCol))])) :: (30, (.d (.i .i64 x23))) :: (29, (.d (.sl 2 (p0.tables.map cGTable)))) :: (28, (.ptr 2 0)) :: (5, (.d (.i .i64 x23))) :: (6, (.ptr 6 0)) :: (27, (vGData y2)) :: (26, (.rp [(.sl 1 (y2.rows.map (cSl 3 cGValue)))])) :: (25, (.d (.i .i64 x23))) :: (24, (.d (.b (decide (x23 < (p1.tables.length : Int)))))) :: (stiDbOk_L0 p1 p0 x23).env, [(7, [(.osl 33 3 1 (y4.map cI))]), (6, [(.d (.sl 1 (y2.rows.map (cSl 3 cGValue))))]), (2, [(.d (.sl 2 (p0.tables.map cGTable)))])]⟩) (by kernel_rfl) ?_
      refine p_step (v' := (.d (.i .i64 (y2.rows.length : Int)))) rfl rfl (vop_len (sz := 1) (l := y2.rows) (f := (cSl 3 cGValue)) (by kernel_rfl) (by kernel_rfl)) ?_
      refine sts_ok 2 (s' := ⟨(38, (.d (.b (decide (6 < (y2.rows.length : Int)))))) :: (37, (.d (.b (decide (6 < (y2.rows.length : Int)))))) :: (36, (.d (.i .i64 (y2.rows.length : Int)))) :: (35, (.d (.sl 1 (y2.rows.map (cSl 3 cGValue))))) :: (34, (.ptr 6 0)) :: (7, (.ptr 7 0)) :: (33, (.osl 33 3 1 (y4.map cI))) :: (32, (vGTable y3)) :: (31, (.rp [(.s (bs y3.name)), (.sl 2 (y3.cols.map cGCol))])) :: (30, (.d (.i .i64 x23))) :: (29, (.d (.sl 2 (p0.tables.map cGTable)))) :: (28, (.ptr 2 0)) :: (5, (.d (.i .i64 x23))) :: (6, (.ptr 6 0)) :: (27, (vGData y2)) :: (26, (.rp [(.sl 1 (y2.rows.map (cSl 3 cGValue)))])) :: (25, (.d (.i .i64 x23))) :: (24, (.d (.b (decide (x23 < (p1.tables.length : Int)))))) :: (stiDbOk_L0 p1 p0 x23).env, [(7, [(.osl 33 3 1 (y4.map cI))]), (6, [(.d (.sl 1 (y2.rows.map (cSl 3 cGValue))))]), (2, [(.d (.sl 2 (p0.tables.map cGTable)))])]⟩) (by kernel_rfl) ?_
      refine gp_step (p := true) (b := (decide (6 < (y2.rows.length : Int)))) (v' := (.ptr 6 0)) (by kernel_rfl) rfl rfl (fun hc => vop_val1 (by kernel_rfl) (by kernel_rfl)) ?_
      refine gp_step (p := true) (b := (decide (6 < (y2.rows.length : Int)))) (v' := (.d (.sl 1 (y2.rows.map (cSl 3 cGValue))))) (by kernel_rfl) rfl rfl (fun hc => vop_val1 (Eq.trans (b := ([(true && ((decide (6 < (y2.rows.length : Int))) == false))] : List Bool).all id) (by kernel_rfl) (all_c hc rfl)) (by kernel_rfl)) ?_
      refine gp_step (p := true) (b := (decide (6 < (y2.rows.length : Int)))) (v' := (.fn 90 [(.ptr 7 0)])) (by kernel_rfl) rfl rfl (fun hc => vop_val1 (by kernel_rfl) (by kernel_rfl)) ?_
      refine gcallg_step ⟨[(1000000, 7)], [], [], [], [], [], [], [33]⟩ (p := true) (b := (decide (6 < (y2.rows.length : Int)))) (m := gSlices_ContainsFunc_impl_Value_impl_Value_x0 y2.rows y4) (dflt := (default : Bool)) (S' := fun (y : Bool) => ⟨(42, (.ite (true && ((decide (6 < (y2.rows.length : Int))) == false)) (.d (.b y)))) :: (41, (.ite (true && ((decide (6 < (y2.rows.length : Int))) == false)) (.fn 90 [(.ptr 7 0)]))) :: (40, (.ite (true && ((decide (6 < (y2.rows.length : Int))) == false)) (.d (.sl 1 (y2.rows.map (cSl 3 cGValue)))))) :: (39, (.ite (true && ((decide (6 < (y2.rows.length : Int))) == false)) (.ptr 6 0))) :: (38, (.d (.b (decide (6 < (y2.rows.length : Int)))))) :: (37, (.d (.b (decide (6 < (y2.rows.length : Int)))))) :: (36, (.d (.i .i64 (y2.rows.length : Int)))) :: (35, (.d (.sl 1 (y2.rows.map (cSl 3 cGValue))))) :: (34, (.ptr 6 0)) :: (7, (.ptr 7 0)) :: (33, (.d (.sl 1 (y4.map cI)))) :: (32, (vGTable y3)) :: (31, (.rp [(.s (bs y3.name)), (.sl 2 (y3.cols.map cGCol))])) :: (30, (.d (.i .i64 x23))) :: (29, (.d (.sl 2 (p0.tables.map cGTable)))) :: (28, (.ptr 2 0)) :: (5, (.d (.i .i64 x23))) :: (6, (.ptr 6 0)) :: (27, (vGData y2)) :: (26, (.rp [(.sl 1 (y2.rows.map (cSl 3 cGValue)))])) :: (25, (.d (.i .i64 x23))) :: (24, (.d (.b (decide (x23 < (p1.tables.length : Int)))))) :: (stiDbOk_L0 p1 p0 x23).env, [(7, [(.d (.sl 1 (y4.map cI)))]), (6, [(.d (.sl 1 (y2.rows.map (cSl 3 cGValue))))]), (2, [(.d (.sl 2 (p0.tables.map cGTable)))])]⟩) h (by kernel_rfl) (OK_gSlices_ContainsFunc_impl_Value_impl_Value_x0 y2.rows y4) (fun hc => by kernel_rfl) (by kernel_rfl) (by kernel_rfl) (by kernel_rfl) (fun y => by kernel_rfl) (by kernel_rfl) (fun hc => (Eq.trans (b := ([(true && ((decide (6 < (y2.rows.length : Int))) == false)), (true && ((decide (6 < (y2.rows.length : Int))) == false))] : List Bool).all id) (by kernel_rfl) (all_c hc (all_c hc rfl)))) (fun y => by kernel_rfl) ?_
      clear h; intro y5 h
      refine p_step (v' := (.d (.b (if (decide (6 < (y2.rows.length : Int))) = true then true else y5)))) rfl rfl (vop_pick (b := (decide (6 < (y2.rows.length : Int)))) (p := true) (u := true) (q := (true && ((decide (6 < (y2.rows.length : Int))) == false))) (v := y5) (by kernel_rfl) (by kernel_rfl) (by kernel_rfl) (by kernel_rfl) (fun _ => rfl) (fun hb => gc_f rfl hb)) ?_
      refine nil_in ?_
      refine next_in ?_
      refine cond_step h (by kernel_rfl) ?_ ?_
      · clear h; intro h
        refine seq_in ?_
        refine ops_in ?_
        refine sts_ok 1 (s' := ⟨(4, (.d (.b false))) :: (43, (.d (.b (if (decide (6 < (y2.rows.length : Int))) = true then true else y5)))) :: (42, (.ite (true && ((decide (6 < (y2.rows.length : Int))) == false)) (.d (.b y5)))) :: (41, (.ite (true && ((decide (6 < (y2.rows.length : Int))) == false)) (.fn 90 [(.ptr 7 0)]))) :: (40, (.ite (true && ((decide (6 < (y2.rows.length : Int))) == false)) (.d (.sl 1 (y2.rows.map (cSl 3 cGValue)))))) :: (39, (.ite (true && ((decide (6 < (y2.rows.length : Int))) == false)) (.ptr 6 0))) :: (38, (.d (.b (decide (6 < (y2.rows.length : Int)))))) :: (37, (.d (.b (decide (6 < (y2.rows.length : Int)))))) :: (36, (.d (.i .i64 (y2.rows.length : Int)))) :: (35, (.d (.sl 1 (y2.rows.map (cSl 3 cGValue))))) :: (34, (.ptr 6 0)) :: (7, (.ptr 7 0)) :: (33, (.d (.sl 1 (y4.map cI)))) :: (32, (vGTable y3)) :: (31, (.rp [(.s (bs y3.name)), (.sl 2 (y3.cols.map cGCol))])) :: (30, (.d (.i .i64 x23))) :: (29, (.d (.sl 2 (p0.tables.map cGTable)))) :: (28, (.ptr 2 0)) :: (5, (.d (.i .i64 x23))) :: (6, (.ptr 6 0)) :: (27, (vGData y2)) :: (26, (.rp [(.sl 1 (y2.rows.map (cSl 3 cGValue)))])) :: (25, (.d (.i .i64 x23))) :: (24, (.d (.b (decide (x23 < (p1.tables.length : Int)))))) :: (stiDbOk_L0 p1 p0 x23).env, [(7, [(.d (.sl 1 (y4.map cI)))]), (6, [(.d (.sl 1 (y2.rows.map (cSl 3 cGValue))))]), (2, [(.d (.sl 2 (p0.tables.map cGTable)))])]⟩) (by kernel_rfl) ?_
        refine nil_in ?_
        refine next_in ?_
        refine ret_in ?_
        refine blockK_ret ?_
        refine thenK_ret ?_
        refine thenK_ret ?_
        refine blockK_ret ?_
        refine thenK_ret ?_
        have h := Option.some.inj h; subst h
        exact ret1_step (v := (.d (.b false))) (by kernel_rfl) (by kernel_rfl) (by kernel_rfl)
      · clear h; intro h
        refine skip_in ?_
        refine blockK_norm ?_
        refine next_in ?_
        refine ops_in ?_
        refine sts_ok 2 (s' := ⟨(23, (.d (.i .i64 (IntKind.wrap .i64 (x23 + 1))))) :: (44, (.d (.i .i64 (IntKind.wrap .i64 (x23 + 1))))) :: (43, (.d (.b (if (decide (6 < (y2.rows.length : Int))) = true then true else y5)))) :: (42, (.ite (true && ((decide (6 < (y2.rows.length : Int))) == false)) (.d (.b y5)))) :: (41, (.ite (true && ((decide (6 < (y2.rows.length : Int))) == false)) (.fn 90 [(.ptr 7 0)]))) :: (40, (.ite (true && ((decide (6 < (y2.rows.length : Int))) == false)) (.d (.sl 1 (y2.rows.map (cSl 3 cGValue)))))) :: (39, (.ite (true && ((decide (6 < (y2.rows.length : Int))) == false)) (.ptr 6 0))) :: (38, (.d (.b (decide (6 < (y2.rows.length : Int)))))) :: (37, (.d (.b (decide (6 < (y2.rows.length : Int)))))) :: (36, (.d (.i .i64 (y2.rows.length : Int)))) :: (35, (.d (.sl 1 (y2.rows.map (cSl 3 cGValue))))) :: (34, (.ptr 6 0)) :: (7, (.ptr 7 0)) :: (33, (.d (.sl 1 (y4.map cI)))) :: (32, (vGTable y3)) :: (31, (.rp [(.s (bs y3.name)), (.sl 2 (y3.cols.map cGCol))])) :: (30, (.d (.i .i64 x23))) :: (29, (.d (.sl 2 (p0.tables.map cGTable)))) :: (28, (.ptr 2 0)) :: (5, (.d (.i .i64 x23))) :: (6, (.ptr 6 0)) :: (27, (vGData y2)) :: (26, (.rp [(.sl 1 (y2.rows.map (cSl 3 cGValue)))])) :: (25, (.d (.i .i64 x23))) :: (24, (.d (.b (decide (x23 < (p1.tables.length : Int)))))) :: (stiDbOk_L0 p1 p0 x23).env, [(7, [(.d (.sl 1 (y4.map cI)))]), (6, [(.d (.sl 1 (y2.rows.map (cSl 3 cGValue))))]), (2, [(.d (.sl 2 (p0.tables.map cGTable)))])]⟩) (by kernel_rfl) ?_
        refine nil_in ?_
        exact loop_back (s' := stiDbOk_L0 p1 p0 (IntKind.wrap .i64 (x23 + 1))) (wk_ren [] (by kernel_rfl) (er_cons (vr_same (by kernel_rfl) (by kernel_rfl)) (er_cons (vr_same (by kernel_rfl) (by kernel_rfl)) (er_cons (vr_same (by kernel_rfl) (by kernel_rfl)) (er_cons (vr_same (by kernel_rfl) (by kernel_rfl)) (er_nil))))) (br_same (by kernel_rfl) (by kernel_rfl) (br_nil))) (OK_iDbOk_L0 (IntKind.wrap .i64 (x23 + 1)) _ h)
    · clear h; intro h
      refine exit_in ?_
      refine thenK_exit ?_
      refine thenK_exit ?_
      refine blockK_here ?_
      refine next_in ?_
      refine seq_in ?_
      refine ops_in ?_
      refine sts_ok 1 (s' := ⟨(4, (.d (.b true))) :: (24, (.d (.b (decide (x23 < (p1.tables.length : Int)))))) :: (stiDbOk_L0 p1 p0 x23).env, (stiDbOk_L0 p1 p0 x23).bx⟩) (by kernel_rfl) ?_
      refine nil_in ?_
      refine next_in ?_
      refine ret_in ?_
      have h := Option.some.inj h; subst h
      exact ret1_step (v := (.d (.b true))) (by kernel_rfl) (by kernel_rfl) (by kernel_rfl)
theorem OK_iDbOk_L0 (p1 : GDb) (p0 : GCatalog) (x23 : Int) (r : Bool) (h : iDbOk_L0 p1 p0 x23 = some r) : avc Try.prog aciDbOk_L0 (qiDbOk_1 r) (stiDbOk_L0 p1 p0 x23) := (OKs_iDbOk_L0 p1 p0) x23 r h
theorem OK_iDbOk (p0 : GCatalog) (p1 : GDb) : FOk Try.prog 44 [(vGCatalog p0), (vGDb p1)] (fun y => (.d (.b y))) (iDbOk p0 p1) := by
  intro r h
  rw [iDbOk] at h
  refine acalls_of_fn triDbOk (Nat.le_of_ble_eq_true rfl) (by simp) ?_
  show avc Try.prog aciDbOk (qiDbOk _) ⟨[(0, (vGCatalog p0)), (1, (vGDb p1))], []⟩
  delta aciDbOk
  refine seq_in ?_
  refine ops_in ?_
  refine sts_ok 3 (s' := ⟨[(4, (.d (.b false))), (3, (.ptr 3 0)), (2, (.ptr 2 0)), (0, (vGCatalog p0)), (1, (vGDb p1))], [(3, [(.d (.sl 1 (p1.tables.map cGData)))]), (2, [(.d (.sl 2 (p0.tables.map cGTable)))])]⟩) (by kernel_rfl) ?_
  refine nil_in ?_
  refine next_in ?_
  refine seq_in ?_
  refine seq_in ?_
  refine ops_in ?_
  refine sts_ok 1 (s' := ⟨[(8, (vGCatalog p0)), (4, (.d (.b false))), (3, (.ptr 3 0)), (2, (.ptr 2 0)), (0, (vGCatalog p0)), (1, (vGDb p1))], [(3, [(.d (.sl 1 (p1.tables.map cGData)))]), (2, [(.d (.sl 2 (p0.tables.map cGTable)))])]⟩) (by kernel_rfl) ?_
  refine call_step (m := iCatalogOk p0) (args := [(vGCatalog p0)]) (v' := (fun y => (.d (.b y)))) h (OK_iCatalogOk p0) (by kernel_rfl) (by kernel_rfl) (fun _ => rfl) ?_
  clear h; intro y1 h
  refine sts_ok 2 (s' := ⟨[(11, (.d (.b (!y1)))), (10, (.d (.b (!y1)))), (9, (.d (.b y1))), (8, (vGCatalog p0)), (4, (.d (.b false))), (3, (.ptr 3 0)), (2, (.ptr 2 0)), (0, (vGCatalog p0)), (1, (vGDb p1))], [(3, [(.d (.sl 1 (p1.tables.map cGData)))]), (2, [(.d (.sl 2 (p0.tables.map cGTable)))])]⟩) (by kernel_rfl) ?_
  refine gp_step (p := true) (b := (!y1)) (v' := (.ptr 3 0)) (by kernel_rfl) rfl rfl (fun hc => vop_val1 (by kernel_rfl) (by kernel_rfl)) ?_
  refine gp_step (p := true) (b := (!y1)) (v' := (.d (.sl 1 (p1.tables.map cGData)))) (by kernel_rfl) rfl rfl (fun hc => vop_val1 (Eq.trans (b := ([(true && ((!y1) == false))] : List Bool).all id) (by kernel_rfl) (all_c hc rfl)) (by kernel_rfl)) ?_
  refine gp_step (p := true) (b := (!y1)) (v' := (.d (.i .i64 (p1.tables.length : Int)))) (by kernel_rfl) rfl rfl (fun hc => vop_len (sz := 1) (l := p1.tables) (f := cGData) (Eq.trans (b := ([(true && ((!y1) == false))] : List Bool).all id) (by kernel_rfl) (all_c hc rfl)) (by kernel_rfl)) ?_
  refine gp_step (p := true) (b := (!y1)) (v' := (.ptr 2 0)) (by kernel_rfl) rfl rfl (fun hc => vop_val1 (by kernel_rfl) (by kernel_rfl)) ?_
  refine gp_step (p := true) (b := (!y1)) (v' := (.d (.sl 2 (p0.tables.map cGTable)))) (by kernel_rfl) rfl rfl (fun hc => vop_val1 (Eq.trans (b := ([(true && ((!y1) == false))] : List Bool).all id) (by kernel_rfl) (all_c hc rfl)) (by kernel_rfl)) ?_
  refine gp_step (p := true) (b := (!y1)) (v' := (.d (.i .i64 (p0.tables.length : Int)))) (by kernel_rfl) rfl rfl (fun hc => vop_len (sz := 2) (l := p0.tables) (f := cGTable) (Eq.trans (b := ([(true && ((!y1) == false))] : List Bool).all id) (by kernel_rfl) (all_c hc rfl)) (by kernel_rfl)) ?_
  refine gp_step (p := true) (b := (!y1)) (v' := (.d (.b (!decide ((p1.tables.length : Int) = (p0.tables.length : Int)))))) (by kernel_rfl) rfl rfl (fun hc => vop_val1 (Eq.trans (b := ([(true && ((!y1) == false)), (true && ((!y1) == false))] : List Bool).all id) (by kernel_rfl) (all_c hc (all_c hc rfl))) (by kernel_rfl)) ?_
  refine p_step (v' := (.d (.b (if (!y1) = true then true else (!decide ((p1.tables.length : Int) = (p0.tables.length : Int))))))) rfl rfl (vop_pick (b := (!y1)) (p := true) (u := true) (q := (true && ((!y1) == false))) (v := (!decide ((p1.tables.length : Int) = (p0.tables.length : Int)))) (by kernel_rfl) (by kernel_rfl) (by kernel_rfl) (by kernel_rfl) (fun _ => rfl) (fun hb => gc_f rfl hb)) ?_
  refine nil_in ?_
  refine next_in ?_
  refine cond_step h (by kernel_rfl) ?_ ?_
  · clear h; intro h
    refine seq_in ?_
    refine ops_in ?_
    refine sts_ok 1 (s' := ⟨[(4, (.d (.b false))), (19, (.d (.b (if (!y1) = true then true else (!decide ((p1.tables.length : Int) = (p0.tables.length : Int))))))), (18, (.ite (true && ((!y1) == false)) (.d (.b (!decide ((p1.tables.length : Int) = (p0.tables.length : Int))))))), (17, (.ite (true && ((!y1) == false)) (.d (.i .i64 (p0.tables.length : Int))))), (16, (.ite (true && ((!y1) == false)) (.d (.sl 2 (p0.tables.map cGTable))))), (15, (.ite (true && ((!y1) == false)) (.ptr 2 0))), (14, (.ite (true && ((!y1) == false)) (.d (.i .i64 (p1.tables.length : Int))))), (13, (.ite (true && ((!y1) == false)) (.d (.sl 1 (p1.tables.map cGData))))), (12, (.ite (true && ((!y1) == false)) (.ptr 3 0))), (11, (.d (.b (!y1)))), (10, (.d (.b (!y1)))), (9, (.d (.b y1))), (8, (vGCatalog p0)), (4, (.d (.b false))), (3, (.ptr 3 0)), (2, (.ptr 2 0)), (0, (vGCatalog p0)), (1, (vGDb p1))], [(3, [(.d (.sl 1 (p1.tables.map cGData)))]), (2, [(.d (.sl 2 (p0.tables.map cGTable)))])]⟩) (by kernel_rfl) ?_
    refine nil_in ?_
    refine next_in ?_
    refine ret_in ?_
    refine thenK_ret ?_
    have h := Option.some.inj h; subst h
    exact ret1_step (v := (.d (.b false))) (by kernel_rfl) (by kernel_rfl) (by kernel_rfl)
  · clear h; intro h
    refine skip_in ?_
    refine next_in ?_
    refine seq_in ?_
    refine seq_in ?_
    refine ops_in ?_
    refine sts_ok 2 (s' := ⟨[(21, (.d (.sl 1 (p1.tables.map cGData)))), (20, (.ptr 3 0)), (19, (.d (.b (if (!y1) = true then true else (!decide ((p1.tables.length : Int) = (p0.tables.length : Int))))))), (18, (.ite (true && ((!y1) == false)) (.d (.b (!decide ((p1.tables.length : Int) = (p0.tables.length : Int))))))), (17, (.ite (true && ((!y1) == false)) (.d (.i .i64 (p0.tables.length : Int))))), (16, (.ite (true && ((!y1) == false)) (.d (.sl 2 (p0.tables.map cGTable))))), (15, (.ite (true && ((!y1) == false)) (.ptr 2 0))), (14, (.ite (true && ((!y1) == false)) (.d (.i .i64 (p1.tables.length : Int))))), (13, (.ite (true && ((!y1) == false)) (.d (.sl 1 (p1.tables.map cGData))))), (12, (.ite (true && ((!y1) == false)) (.ptr 3 0))), (11, (.d (.b (!y1)))), (10, (.d (.b (!y1)))), (9, (.d (.b y1))), (8, (vGCatalog p0)), (4, (.d (.b false))), (3, (.ptr 3 0)), (2, (.ptr 2 0)), (0, (vGCatalog p0)), (1, (vGDb p1))], [(3, [(.d (.sl 1 (p1.tables.map cGData)))]), (2, [(.d (.sl 2 (p0.tables.map cGTable)))])]⟩) (by kernel_rfl) ?_
    refine p_step (v' := (.d (.i .i64 (p1.tables.length : Int)))) rfl rfl (vop_len (sz := 1) (l := p1.tables) (f := cGData) (by kernel_rfl) (by kernel_rfl)) ?_
    refine sts_ok 1 (s' := ⟨[(23, (.d (.i .i64 0))), (22, (.d (.i .i64 (p1.tables.length : Int)))), (21, (.d (.sl 1 (p1.tables.map cGData)))), (20, (.ptr 3 0)), (19, (.d (.b (if (!y1) = true then true else (!decide ((p1.tables.length : Int) = (p0.tables.length : Int))))))), (18, (.ite (true && ((!y1) == false)) (.d (.b (!decide ((p1.tables.length : Int) = (p0.tables.length : Int))))))), (17, (.ite (true && ((!y1) == false)) (.d (.i .i64 (p0.tables.length : Int))))), (16, (.ite (true && ((!y1) == false)) (.d (.sl 2 (p0.tables.map cGTable))))), (15, (.ite (true && ((!y1) == false)) (.ptr 2 0))), (14, (.ite (true && ((!y1) == false)) (.d (.i .i64 (p1.tables.length : Int))))), (13, (.ite (true && ((!y1) == false)) (.d (.sl 1 (p1.tables.map cGData))))), (12, (.ite (true && ((!y1) == false)) (.ptr 3 0))), (11, (.d (.b (!y1)))), (10, (.d (.b (!y1)))), (9, (.d (.b y1))), (8, (vGCatalog p0)), (4, (.d (.b false))), (3, (.ptr 3 0)), (2, (.ptr 2 0)), (0, (vGCatalog p0)), (1, (vGDb p1))], [(3, [(.d (.sl 1 (p1.tables.map cGData)))]), (2, [(.d (.sl 2 (p0.tables.map cGTable)))])]⟩) (by kernel_rfl) ?_
    refine nil_in ?_
    refine next_in ?_
    refine block_in ?_
    exact loop_go (s' := stiDbOk_L0 p1 p0 0) (wk_ren [] (by kernel_rfl) (er_cons (vr_same (by kernel_rfl) (by kernel_rfl)) (er_cons (vr_same (by kernel_rfl) (by kernel_rfl)) (er_cons (vr_same (by kernel_rfl) (by kernel_rfl)) (er_cons (vr_same (by kernel_rfl) (by kernel_rfl)) (er_nil))))) (br_same (by kernel_rfl) (by kernel_rfl) (br_nil))) (OK_iDbOk_L0 p1 p0 0 _ h)
theorem OKs_sColAt_L0 (p1 : (List UInt8)) (p0 : GTable) : (∀ (x5 : Int) (r : Int), sColAt_L0 p1 p0 x5 = some r → avc Try.prog acsColAt_L0 (qsColAt_1 r) (stsColAt_L0 p1 p0 x5)) := by
  refine sColAt_L0.partial_correctness p1 p0 (fun x5 r => avc Try.prog acsColAt_L0 (qsColAt_1 r) (stsColAt_L0 p1 p0 x5)) ?_
  · intro F_sColAt_L0 OK_sColAt_L0 x5 r h
    delta acsColAt_L0
    refine loop_unroll ?_
    refine seq_in ?_
    refine seq_in ?_
    refine ops_in ?_
    refine sts_ok 3 (s' := ⟨(8, (.d (.sl 2 (p0.cols.map cGCol)))) :: (7, (.ptr 2 1)) :: (6, (.d (.i .i64 x5))) :: (stsColAt_L0 p1 p0 x5).env, (stsColAt_L0 p1 p0 x5).bx⟩) (by kernel_rfl) ?_
    refine p_step (v' := (.d (.i .i64 (p0.cols.length : Int)))) rfl rfl (vop_len (sz := 2) (l := p0.cols) (f := cGCol) (by kernel_rfl) (by kernel_rfl)) ?_
    refine sts_ok 1 (s' := ⟨(10, (.d (.b (decide (x5 < (p0.cols.length : Int)))))) :: (9, (.d (.i .i64 (p0.cols.length : Int)))) :: (8, (.d (.sl 2 (p0.cols.map cGCol)))) :: (7, (.ptr 2 1)) :: (6, (.d (.i .i64 x5))) :: (stsColAt_L0 p1 p0 x5).env, (stsColAt_L0 p1 p0 x5).bx⟩) (by kernel_rfl) ?_
    refine nil_in ?_
    refine next_in ?_
    refine cond_step h (by kernel_rfl) ?_ ?_
    · clear h; intro h
      refine skip_in ?_
      refine next_in ?_
      refine seq_in ?_
      refine block_in ?_
      refine seq_in ?_
      refine ops_in ?_
      refine sts_ok 3 (s' := ⟨(15, (.d (.i .i64 x5))) :: (14, (.d (.sl 2 (p0.cols.map cGCol)))) :: (13, (.ptr 2 1)) :: (10, (.d (.b (decide (x5 < (p0.cols.length : Int)))))) :: (9, (.d (.i .i64 (p0.cols.length : Int)))) :: (8, (.d (.sl 2 (p0.cols.map cGCol)))) :: (7, (.ptr 2 1)) :: (6, (.d (.i .i64 x5))) :: (stsColAt_L0 p1 p0 x5).env, (stsColAt_L0 p1 p0 x5).bx⟩) (by kernel_rfl) ?_
      refine v_step (m := idx p0.cols x5) (v' := fun y => (.rp [(.s (bs y.name)), (.i .i64 y.type)])) h rfl rfl (fun y hy => vop_ia (l := p0.cols) (f := cGCol) (g := cGCol) (k := .i64) hy (fun _ => rfl) (by kernel_rfl) (by kernel_rfl) (by kernel_rfl)) ?_
      clear h; intro y1 h
      refine sts_ok 4 (s' := ⟨(20, (.d (.b (decide (y1.name = p1))))) :: (19, (.d (.s (bs p1)))) :: (18, (.d (.s (bs y1.name)))) :: (17, (.rp [(.s (bs y1.name)), (.i .i64 y1.type)])) :: (16, (.rp [(.s (bs y1.name)), (.i .i64 y1.type)])) :: (15, (.d (.i .i64 x5))) :: (14, (.d (.sl 2 (p0.cols.map cGCol)))) :: (13, (.ptr 2 1)) :: (10, (.d (.b (decide (x5 < (p0.cols.length : Int)))))) :: (9, (.d (.i .i64 (p0.cols.length : Int)))) :: (8, (.d (.sl 2 (p0.cols.map cGCol)))) :: (7, (.ptr 2 1)) :: (6, (.d (.i .i64 x5))) :: (stsColAt_L0 p1 p0 x5).env, (stsColAt_L0 p1 p0 x5).bx⟩) (by kernel_rfl) ?_
      refine nil_in ?_
      refine next_in ?_
      refine cond_step h (by kernel_rfl) ?_ ?_
      · clear h; intro h
        refine seq_in ?_
        refine ops_in ?_
        refine sts_ok 2 (s' := ⟨(4, (.d (.i .i64 x5))) :: (21, (.d (.i .i64 x5))) :: (20, (.d (.b (decide (y1.name = p1))))) :: (19, (.d (.s (bs p1)))) :: (18, (.d (.s (bs y1.name)))) :: (17, (.rp [(.s (bs y1.name)), (.i .i64 y1.type)])) :: (16, (.rp [(.s (bs y1.name)), (.i .i64 y1.type)])) :: (15, (.d (.i .i64 x5))) :: (14, (.d (.sl 2 (p0.cols.map cGCol)))) :: (13, (.ptr 2 1)) :: (10, (.d (.b (decide (x5 < (p0.cols.length : Int)))))) :: (9, (.d (.i .i64 (p0.cols.length : Int)))) :: (8, (.d (.sl 2 (p0.cols.map cGCol)))) :: (7, (.ptr 2 1)) :: (6, (.d (.i .i64 x5))) :: (stsColAt_L0 p1 p0 x5).env, (stsColAt_L0 p1 p0 x5).bx⟩) (by kernel_rfl) ?_
        refine nil_in ?_
        refine next_in ?_
        refine ret_in ?_
        refine blockK_ret ?_
        refine thenK_ret ?_
        refine thenK_ret ?_
        refine blockK_ret ?_
        refine thenK_ret ?_
        have h := Option.some.inj h; subst h
        exact ret1_step (v := (.d (.i .i64 x5))) (by kernel_rfl) (by kernel_rfl) (by kernel_rfl)
      · clear h; intro h
        refine skip_in ?_
        refine blockK_norm ?_
        refine next_in ?_
        refine ops_in ?_
        refine sts_ok 3 (s' := ⟨(5, (.d (.i .i64 (IntKind.wrap .i64 (x5 + 1))))) :: (12, (.d (.i .i64 (IntKind.wrap .i64 (x5 + 1))))) :: (11, (.d (.i .i64 x5))) :: (20, (.d (.b (decide (y1.name = p1))))) :: (19, (.d (.s (bs p1)))) :: (18, (.d (.s (bs y1.name)))) :: (17, (.rp [(.s (bs y1.name)), (.i .i64 y1.type)])) :: (16, (.rp [(.s (bs y1.name)), (.i .i64 y1.type)])) :: (15, (.d (.i .i64 x5))) :: (14, (.d (.sl 2 (p0.cols.map cGCol)))) :: (13, (.ptr 2 1)) :: (10, (.d (.b (decide (x5 < (p0.cols.length : Int)))))) :: (9, (.d (.i .i64 (p0.cols.length : Int)))) :: (8, (.d (.sl 2 (p0.cols.map cGCol)))) :: (7, (.ptr 2 1)) :: (6, (.d (.i .i64 x5))) :: (stsColAt_L0 p1 p0 x5).env, (stsColAt_L0 p1 p0 x5).bx⟩) (by kernel_rfl) ?_
        refine nil_in ?_
        exact loop_back (s' := stsColAt_L0 p1 p0 (IntKind.wrap .i64 (x5 + 1))) (wk_ren [] (by kernel_rfl) (er_cons (vr_same (by kernel_rfl) (by kernel_rfl)) (er_cons (vr_same (by kernel_rfl) (by kernel_rfl)) (er_cons (vr_same (by kernel_rfl) (by kernel_rfl)) (er_nil)))) (br_same (by kernel_rfl) (by kernel_rfl) (br_nil))) (OK_sColAt_L0 (IntKind.wrap .i64 (x5 + 1)) _ h)
    · clear h; intro h
      refine exit_in ?_
      refine thenK_exit ?_
      refine thenK_exit ?_
      refine blockK_here ?_
      refine next_in ?_
      refine seq_in ?_
      refine ops_in ?_
      refine sts_ok 1 (s' := ⟨(4, (.d (.i .i64 (-1)))) :: (10, (.d (.b (decide (x5 < (p0.cols.length : Int)))))) :: (9, (.d (.i .i64 (p0.cols.length : Int)))) :: (8, (.d (.sl 2 (p0.cols.map cGCol)))) :: (7, (.ptr 2 1)) :: (6, (.d (.i .i64 x5))) :: (stsColAt_L0 p1 p0 x5).env, (stsColAt_L0 p1 p0 x5).bx⟩) (by kernel_rfl) ?_
      refine nil_in ?_
      refine next_in ?_
      refine ret_in ?_
      have h := Option.some.inj h; subst h
      exact ret1_step (v := (.d (.i .i64 (-1)))) (by kernel_rfl) (by kernel_rfl) (by kernel_rfl)
theorem OK_sColAt_L0 (p1 : (List UInt8)) (p0 : GTable) (x5 : Int) (r : Int) (h : sColAt_L0 p1 p0 x5 = some r) : avc Try.prog acsColAt_L0 (qsColAt_1 r) (stsColAt_L0 p1 p0 x5) := (OKs_sColAt_L0 p1 p0) x5 r h
theorem OK_sColAt (p0 : GTable) (p1 : (List UInt8)) : FOk Try.prog 157 [(vGTable p0), (.d (.s (bs p1)))] (fun y => (.d (.i .i64 y))) (sColAt p0 p1) := by
  intro r h
  rw [sColAt] at h
  refine acalls_of_fn trsColAt (Nat.le_of_ble_eq_true rfl) (by simp) ?_
  show avc Try.prog acsColAt (qsColAt _) ⟨[(0, (vGTable p0)), (1, (.d (.s (bs p1))))], []⟩
  delta acsColAt
  refine seq_in ?_
  refine ops_in ?_
  refine sts_ok 2 (s' := ⟨[(4, (.d (.i .i64 0))), (2, (.ptr 2 0)), (0, (vGTable p0)), (1, (.d (.s (bs p1))))], [(2, [(.d (.s (bs p0.name))), (.d (.sl 2 (p0.cols.map cGCol)))])]⟩) (by kernel_rfl) ?_
  refine nil_in ?_
  refine next_in ?_
  refine seq_in ?_
  refine seq_in ?_
  refine ops_in ?_
  refine sts_ok 1 (s' := ⟨[(5, (.d (.i .i64 0))), (4, (.d (.i .i64 0))), (2, (.ptr 2 0)), (0, (vGTable p0)), (1, (.d (.s (bs p1))))], [(2, [(.d (.s (bs p0.name))), (.d (.sl 2 (p0.cols.map cGCol)))])]⟩) (by kernel_rfl) ?_
  refine nil_in ?_
  refine next_in ?_
  refine block_in ?_
  exact loop_go (s' := stsColAt_L0 p1 p0 0) (wk_ren [] (by kernel_rfl) (er_cons (vr_same (by kernel_rfl) (by kernel_rfl)) (er_cons (vr_same (by kernel_rfl) (by kernel_rfl)) (er_cons (vr_same (by kernel_rfl) (by kernel_rfl)) (er_nil)))) (br_same (by kernel_rfl) (by kernel_rfl) (br_nil))) (OK_sColAt_L0 p1 p0 0 _ h)
theorem OK_sL1In (p0 : Int) (p1 : Int) (p2 : Int) : FOk Try.prog 121 [(.d (.i .i64 p0)), (.d (.i .i64 p1)), (.d (.i .i64 p2))] (fun y => (.d (.b y))) (sL1In p0 p1 p2) := by
  intro r h
  rw [sL1In] at h
  refine acalls_of_fn trsL1In (Nat.le_of_ble_eq_true rfl) (by simp) ?_
  show avc Try.prog acsL1In (qsL1In _) ⟨[(0, (.d (.i .i64 p0))), (1, (.d (.i .i64 p1))), (2, (.d (.i .i64 p2)))], []⟩
  delta acsL1In
  refine seq_in ?_
  refine ops_in ?_
  refine sts_ok 1 (s' := ⟨[(6, (.d (.b false))), (0, (.d (.i .i64 p0))), (1, (.d (.i .i64 p1))), (2, (.d (.i .i64 p2)))], []⟩) (by kernel_rfl) ?_
  refine nil_in ?_
  refine next_in ?_
  refine seq_in ?_
  refine ops_in ?_
  refine sts_ok 4 (s' := ⟨[(10, (.d (.b (decide (p1 ≤ p0))))), (9, (.d (.b (decide (p1 ≤ p0))))), (8, (.d (.i .i64 p1))), (7, (.d (.i .i64 p0))), (6, (.d (.b false))), (0, (.d (.i .i64 p0))), (1, (.d (.i .i64 p1))), (2, (.d (.i .i64 p2)))], []⟩) (by kernel_rfl) ?_
  refine gp_step (p := true) (b := (decide (p1 ≤ p0))) (v' := (.d (.i .i64 p0))) (by kernel_rfl) rfl rfl (fun hc => vop_val1 (by kernel_rfl) (by kernel_rfl)) ?_
  refine gp_step (p := true) (b := (decide (p1 ≤ p0))) (v' := (.d (.i .i64 p2))) (by kernel_rfl) rfl rfl (fun hc => vop_val1 (by kernel_rfl) (by kernel_rfl)) ?_
  refine gp_step (p := true) (b := (decide (p1 ≤ p0))) (v' := (.d (.b (decide (p0 ≤ p2))))) (by kernel_rfl) rfl rfl (fun hc => vop_val1 (Eq.trans (b := ([(true && ((decide (p1 ≤ p0)) == true)), (true && ((decide (p1 ≤ p0)) == true))] : List Bool).all id) (by kernel_rfl) (all_c hc (all_c hc rfl))) (by kernel_rfl)) ?_
  refine p_step (v' := (.d (.b (if (decide (p1 ≤ p0)) = true then (decide (p0 ≤ p2)) else false)))) rfl rfl (vop_pick (b := (decide (p1 ≤ p0))) (p := (true && ((decide (p1 ≤ p0)) == true))) (u := (decide (p0 ≤ p2))) (q := true) (v := false) (by kernel_rfl) (by kernel_rfl) (by kernel_rfl) (by kernel_rfl) (fun hb => gc_t rfl hb) (fun _ => rfl)) ?_
  refine sts_ok 1 (s' := ⟨[(6, (.d (.b (if (decide (p1 ≤ p0)) = true then (decide (p0 ≤ p2)) else false)))), (14, (.d (.b (if (decide (p1 ≤ p0)) = true then (decide (p0 ≤ p2)) else false)))), (13, (.ite (true && ((decide (p1 ≤ p0)) == true)) (.d (.b (decide (p0 ≤ p2)))))), (12, (.ite (true && ((decide (p1 ≤ p0)) == true)) (.d (.i .i64 p2)))), (11, (.ite (true && ((decide (p1 ≤ p0)) == true)) (.d (.i .i64 p0)))), (10, (.d (.b (decide (p1 ≤ p0))))), (9, (.d (.b (decide (p1 ≤ p0))))), (8, (.d (.i .i64 p1))), (7, (.d (.i .i64 p0))), (6, (.d (.b false))), (0, (.d (.i .i64 p0))), (1, (.d (.i .i64 p1))), (2, (.d (.i .i64 p2)))], []⟩) (by kernel_rfl) ?_
  refine nil_in ?_
  refine next_in ?_
  refine ret_in ?_
  have h := Option.some.inj h; subst h
  exact ret1_step (v := (.d (.b (if (decide (p1 ≤ p0)) = true then (decide (p0 ≤ p2)) else false)))) (by kernel_rfl) (by kernel_rfl) (by kernel_rfl)
theorem OK_sNameOk (p0 : (List UInt8)) : FOk Try.prog 155 [(.d (.s (bs p0)))] (fun y => (.d (.b y))) (sNameOk p0) := by
  intro r h
  rw [sNameOk] at h
  refine acalls_of_fn trsNameOk (Nat.le_of_ble_eq_true rfl) (by simp) ?_
  show avc Try.prog acsNameOk (qsNameOk _) ⟨[(0, (.d (.s (bs p0))))], []⟩
  delta acsNameOk
  refine seq_in ?_
  refine ops_in ?_
  refine sts_ok 1 (s' := ⟨[(2, (.d (.b false))), (0, (.d (.s (bs p0))))], []⟩) (by kernel_rfl) ?_
  refine nil_in ?_
  refine next_in ?_
  refine seq_in ?_
  refine ops_in ?_
  refine sts_ok 2 (s' := ⟨[(4, (.d (.i .i64 (p0.length : Int)))), (3, (.d (.s (bs p0)))), (2, (.d (.b false))), (0, (.d (.s (bs p0))))], []⟩) (by kernel_rfl) ?_
  refine call_step (m := sL1In (p0.length : Int) 1 20) (args := [(.d (.i .i64 (p0.length : Int))), (.d (.i .i64 1)), (.d (.i .i64 20))]) (v' := (fun y => (.d (.b y)))) h (OK_sL1In (p0.length : Int) 1 20) (by kernel_rfl) (by kernel_rfl) (fun _ => rfl) ?_
  clear h; intro y1 h
  refine sts_ok 1 (s' := ⟨[(2, (.d (.b y1))), (5, (.d (.b y1))), (4, (.d (.i .i64 (p0.length : Int)))), (3, (.d (.s (bs p0)))), (2, (.d (.b false))), (0, (.d (.s (bs p0))))], []⟩) (by kernel_rfl) ?_
  refine nil_in ?_
  refine next_in ?_
  refine ret_in ?_
  have h := Option.some.inj h; subst h
  exact ret1_step (v := (.d (.b y1))) (by kernel_rfl) (by kernel_rfl) (by kernel_rfl)
theorem OKs_sTableAt_L0 (p1 : (List UInt8)) (p0 : GCatalog) : (∀ (x5 : Int) (r : Int), sTableAt_L0 p1 p0 x5 = some r → avc Try.prog acsTableAt_L0 (qsTableAt_1 r) (stsTableAt_L0 p1 p0 x5)) := by
  refine sTableAt_L0.partial_correctness p1 p0 (fun x5 r => avc Try.prog acsTableAt_L0 (qsTableAt_1 r) (stsTableAt_L0 p1 p0 x5)) ?_
  · intro F_sTableAt_L0 OK_sTableAt_L0 x5 r h
    delta acsTableAt_L0
    refine loop_unroll ?_
    refine seq_in ?_
    refine seq_in ?_
    refine ops_in ?_
    refine sts_ok 3 (s' := ⟨(8, (.d (.sl 2 (p0.tables.map cGTable)))) :: (7, (.ptr 2 0)) :: (6, (.d (.i .i64 x5))) :: (stsTableAt_L0 p1 p0 x5).env, (stsTableAt_L0 p1 p0 x5).bx⟩) (by kernel_rfl) ?_
    refine p_step (v' := (.d (.i .i64 (p0.tables.length : Int)))) rfl rfl (vop_len (sz := 2) (l := p0.tables) (f := cGTable) (by kernel_rfl) (by kernel_rfl)) ?_
    refine sts_ok 1 (s' := ⟨(10, (.d (.b (decide (x5 < (p0.tables.length : Int)))))) :: (9, (.d (.i .i64 (p0.tables.length : Int)))) :: (8, (.d (.sl 2 (p0.tables.map cGTable)))) :: (7, (.ptr 2 0)) :: (6, (.d (.i .i64 x5))) :: (stsTableAt_L0 p1 p0 x5).env, (stsTableAt_L0 p1 p0 x5).bx⟩) (by kernel_rfl) ?_
    refine nil_in ?_
    refine next_in ?_
    refine cond_step h (by kernel_rfl) ?_ ?_
    · clear h; intro h
      refine skip_in ?_
      refine next_in ?_
      refine seq_in ?_
      refine block_in ?_
      refine seq_in ?_
      refine ops_in ?_
      refine sts_ok 3 (s' := ⟨(15, (.d (.i .i64 x5))) :: (14, (.d (.sl 2 (p0.tables.map cGTable)))) :: (13, (.ptr 2 0)) :: (10, (.d (.b (decide (x5 < (p0.tables.length : Int)))))) :: (9, (.d (.i .i64 (p0.tables.length : Int)))) :: (8, (.d (.sl 2 (p0.tables.map cGTable)))) :: (7, (.ptr 2 0)) :: (6, (.d (.i .i64 x5))) :: (stsTableAt_L0 p1 p0 x5).env, (stsTableAt_L0 p1 p0 x5).bx⟩) (by kernel_rfl) ?_
      refine v_step (m := idx p0.tables x5) (v' := fun y => (.rp [(.s (bs y.name)), (.sl 2 (y.cols.map cGCol))])) h rfl rfl (fun y hy => vop_ia (l := p0.tables) (f := cGTable) (g := cGTable) (k := .i64) hy (fun _ => rfl) (by kernel_rfl) (by kernel_rfl) (by kernel_rfl)) ?_
      clear h; intro y1 h
      refine sts_ok 4 (s' := ⟨(20, (.d (.b (decide (y1.name = p1))))) :: (19, (.d (.s (bs p1)))) :: (18, (.d (.s (bs y1.name)))) :: (17, (.rp [(.s (bs y1.name)), (.sl 2 (y1.cols.map cGCol))])) :: (16, (.rp [(.s (bs y1.name)), (.sl 2 (y1.cols.map cGCol))])) :: (15, (.d (.i .i64 x5))) :: (14, (.d (.sl 2 (p0.tables.map cGTable)))) :: (13, (.ptr 2 0)) :: (10, (.d (.b (decide (x5 < (p0.tables.length : Int)))))) :: (9, (.d (.i .i64 (p0.tables.length : Int)))) :: (8, (.d (.sl 2 (p0.tables.map cGTable)))) :: (7, (.ptr 2 0)) :: (6, (.d (.i .i64 x5))) :: (stsTableAt_L0 p1 p0 x5).env, (stsTableAt_L0 p1 p0 x5).bx⟩) (by kernel_rfl) ?_
      refine nil_in ?_
      refine next_in ?_
      refine cond_step h (by kernel_rfl) ?_ ?_
      · clear h; intro h
        refine seq_in ?_
        refine ops_in ?_
        refine sts_ok 2 (s' := ⟨(4, (.d (.i .i64 x5))) :: (21, (.d (.i .i64 x5))) :: (20, (.d (.b (decide (y1.name = p1))))) :: (19, (.d (.s (bs p1)))) :: (18, (.d (.s (bs y1.name)))) :: (17, (.rp [(.s (bs y1.name)), (.sl 2 (y1.cols.map cGCol))])) :: (16, (.rp [(.s (bs y1.name)), (.sl 2 (y1.cols.map cGCol))])) :: (15, (.d (.i .i64 x5))) :: (14, (.d (.sl 2 (p0.tables.map cGTable)))) :: (13, (.ptr 2 0)) :: (10, (.d (.b (decide (x5 < (p0.tables.length : Int)))))) :: (9, (.d (.i .i64 (p0.tables.length : Int)))) :: (8, (.d (.sl 2 (p0.tables.map cGTable)))) :: (7, (.ptr 2 0)) :: (6, (.d (.i .i64 x5))) :: (stsTableAt_L0 p1 p0 x5).env, (stsTableAt_L0 p1 p0 x5).bx⟩) (by kernel_rfl) ?_
        refine nil_in ?_
        refine next_in ?_
        refine ret_in ?_
        refine blockK_ret ?_
        refine thenK_ret ?_
        refine thenK_ret ?_
        refine blockK_ret ?_
        refine thenK_ret ?_
        have h := Option.some.inj h; subst h
        exact ret1_step (v := (.d (.i .i64 x5))) (by kernel_rfl) (by kernel_rfl) (by kernel_rfl)
      · clear h; intro h
        refine skip_in ?_
        refine blockK_norm ?_
        refine next_in ?_
        refine ops_in ?_
        refine sts_ok 3 (s' := ⟨(5, (.d (.i .i64 (IntKind.wrap .i64 (x5 + 1))))) :: (12, (.d (.i .i64 (IntKind.wrap .i64 (x5 + 1))))) :: (11, (.d (.i .i64 x5))) :: (20, (.d (.b (decide (y1.name = p1))))) :: (19, (.d (.s (bs p1)))) :: (18, (.d (.s (bs y1.name)))) :: (17, (.rp [(.s (bs y1.name)), (.sl 2 (y1.cols.map cGCol))])) :: (16, (.rp [(.s (bs y1.name)), (.sl 2 (y1.cols.map cGCol))])) :: (15, (.d (.i .i64 x5))) :: (14, (.d (.sl 2 (p0.tables.map cGTable)))) :: (13, (.ptr 2 0)) :: (10, (.d (.b (decide (x5 < (p0.tables.length : Int)))))) :: (9, (.d (.i .i64 (p0.tables.length : Int)))) :: (8, (.d (.sl 2 (p0.tables.map cGTable)))) :: (7, (.ptr 2 0)) :: (6, (.d (.i .i64 x5))) :: (stsTableAt_L0 p1 p0 x5).env, (stsTableAt_L0 p1 p0 x5).bx⟩) (by kernel_rfl) ?_
        refine nil_in ?_
        exact loop_back (s' := stsTableAt_L0 p1 p0 (IntKind.wrap .i64 (x5 + 1))) (wk_ren [] (by kernel_rfl) (er_cons (vr_same (by kernel_rfl) (by kernel_rfl)) (er_cons (vr_same (by kernel_rfl) (by kernel_rfl)) (er_cons (vr_same (by kernel_rfl) (by kernel_rfl)) (er_nil)))) (br_same (by kernel_rfl) (by kernel_rfl) (br_nil))) (OK_sTableAt_L0 (IntKind.wrap .i64 (x5 + 1)) _ h)
    · clear h; intro h
      refine exit_in ?_
      refine thenK_exit ?_
      refine thenK_exit ?_
      refine blockK_here ?_
      refine next_in ?_
      refine seq_in ?_
      refine ops_in ?_
      refine sts_ok 1 (s' := ⟨(4, (.d (.i .i64 (-1)))) :: (10, (.d (.b (decide (x5 < (p0.tables.length : Int)))))) :: (9, (.d (.i .i64 (p0.tables.length : Int)))) :: (8, (.d (.sl 2 (p0.tables.map cGTable)))) :: (7, (.ptr 2 0)) :: (6, (.d (.i .i64 x5))) :: (stsTableAt_L0 p1 p0 x5).env, (stsTableAt_L0 p1 p0 x5).bx⟩) (by kernel_rfl) ?_
      refine nil_in ?_
      refine next_in ?_
      refine ret_in ?_
      have h := Option.some.inj h; subst h
      exact ret1_step (v := (.d (.i .i64 (-1)))) (by kernel_rfl) (by kernel_rfl) (by kernel_rfl)
theorem OK_sTableAt_L0 (p1 : (List UInt8)) (p0 : GCatalog) (x5 : Int) (r : Int) (h : sTableAt_L0 p1 p0 x5 = some r) : avc Try.prog acsTableAt_L0 (qsTableAt_1 r) (stsTableAt_L0 p1 p0 x5) := (OKs_sTableAt_L0 p1 p0) x5 r h
theorem OK_sTableAt (p0 : GCatalog) (p1 : (List UInt8)) : FOk Try.prog 156 [(vGCatalog p0), (.d (.s (bs p1)))] (fun y => (.d (.i .i64 y))) (sTableAt p0 p1) := by
  intro r h
  rw [sTableAt] at h
  refine acalls_of_fn trsTableAt (Nat.le_of_ble_eq_true rfl) (by simp) ?_
  show avc Try.prog acsTableAt (qsTableAt _) ⟨[(0, (vGCatalog p0)), (1, (.d (.s (bs p1))))], []⟩
  delta acsTableAt
  refine seq_in ?_
  refine ops_in ?_
  refine sts_ok 2 (s' := ⟨[(4, (.d (.i .i64 0))), (2, (.ptr 2 0)), (0, (vGCatalog p0)), (1, (.d (.s (bs p1))))], [(2, [(.d (.sl 2 (p0.tables.map cGTable)))])]⟩) (by kernel_rfl) ?_
  refine nil_in ?_
  refine next_in ?_
  refine seq_in ?_
  refine seq_in ?_
  refine ops_in ?_
  refine sts_ok 1 (s' := ⟨[(5, (.d (.i .i64 0))), (4, (.d (.i .i64 0))), (2, (.ptr 2 0)), (0, (vGCatalog p0)), (1, (.d (.s (bs p1))))], [(2, [(.d (.sl 2 (p0.tables.map cGTable)))])]⟩) (by kernel_rfl) ?_
  refine nil_in ?_
  refine next_in ?_
  refine block_in ?_
  exact loop_go (s' := stsTableAt_L0 p1 p0 0) (wk_ren [] (by kernel_rfl) (er_cons (vr_same (by kernel_rfl) (by kernel_rfl)) (er_cons (vr_same (by kernel_rfl) (by kernel_rfl)) (er_cons (vr_same (by kernel_rfl) (by kernel_rfl)) (er_nil)))) (br_same (by kernel_rfl) (by kernel_rfl) (br_nil))) (OK_sTableAt_L0 p1 p0 0 _ h)
end Go.Proofs.Ytlohdmekmmjjlaa
